import Derived.Test.YtnlhjbnpjefjgaaGreatDoorSk
import Derived.Test.YtnlhjbnpjefjgaaGreatDoorSk
import Derived.Test.YtnlhjbnpjefjgaaGreatDoorDf
import Derived.Test.YtnlhjbnpjefjgaaGreatDoorSv
set_option linter.all false
set_option maxRecDepth 100000
namespace Go.Proofs.YtnlhjbnpjefjgaaGreatDoor
open Go Go.RowKit
def kdd (m s:Nat):Int:=if s<=m then (m:Int) - (s:Int) else -1
theorem kgh {l:List Tm} {i:Nat} (h:i<l.length):Tm.sizeL (l.take (i+1))=Tm.sizeL (l.take i)+l[i].size:=by rw [qx h,Tm.sizeL_snoc]
theorem kek (l:List Tm) (i:Nat):i<=l.length->i<=Tm.sizeL (l.take i)/\Tm.sizeL (l.take i)<=Tm.sizeL l:=by
 intro hi
 induction i with
 | zero=>exact ⟨qar _,by simp [Tm.sizeL]⟩
 | succ i ih=>
  have h1:=ih (by omega);have c:=kgh (l:=l) (i:=i) (by omega);have d:=Tm.size_pos l[i];refine ⟨by omega,?_⟩;have:Tm.sizeL l=Tm.sizeL (l.take (i+1))+Tm.sizeL (l.drop (i+1)):=by
   have gen:∀ a b:List Tm,Tm.sizeL (a++b)=Tm.sizeL a+Tm.sizeL b:=fun a b=>by
    induction a with
    | nil=>simp [Tm.sizeL]
    | cons x a ih=>simp only [qbp,Tm.sizeL,ih];omega
   rw [<- gen,List.take_append_drop]
  omega
theorem kve:∀ (n:Nat) (t:Tm) (m:Nat),m<=10000->m<n->kbd n t (m:Int)=some (kdd m t.size)/\kbd n t (m:Int)=some (kdd m t.size)
 | 0,t,m,_,h=>by omega
 | n+1,t,m,hm,hn=>by
  show kdi (kbd n) t (m:Int)=_/\kdi (kbd n) t (m:Int)=_;obtain ⟨r0,l⟩:=t;have f:(Tm.mk r0 l).size=Tm.sizeL l+1:=rfl;have a:w64 ((m:Int) - 1)=kdd m (1+Tm.sizeL (l.take 0)):=by rw [kdf];simp only [List.take_zero,Tm.sizeL,kdd];split <;> omega
  obtain ⟨r,r',h1,j,q,k⟩:=k5d (step:=kaz (Tm.mk r0 l) (kbd n)) (step':=kaz (Tm.mk r0 l) (kbd n)) (min l.length m) (by omega)
   (fun i=>(kdd m (1+Tm.sizeL (l.take i)),(i:Int))) (fun i=>(kdd m (1+Tm.sizeL (l.take i)),(i:Int))) (fun r r'=>r=kdd m (Tm.sizeL l+1)/\r'=kdd m (Tm.sizeL l+1)) (fun i hi=>by
   have c:i<l.length:=(by omega);have e1:(Tm.mk r0 l).args[i]?=some l[i]:=qa c;have b1:decide ((i:Int)<((Tm.mk r0 l).args.length:Int))=true:=qs (by show (i:Int)<(l.length:Int);omega);have e:=kek l i (by omega);simp only [kaz,kaz,b1,qe,qb,kag,e1];by_cases hp:1+Tm.sizeL (l.take i)<=m
   ·have hv:kdd m (1+Tm.sizeL (l.take i))=((m - (1+Tm.sizeL (l.take i)):Nat):Int):=(by unfold kdd;rw [qn hp];omega);obtain ⟨q1,q2⟩:=kve n l[i] (m - (1+Tm.sizeL (l.take i))) (by omega) (by omega);have d:kdd (m - (1+Tm.sizeL (l.take i))) l[i].size=kdd m (1+Tm.sizeL (l.take (i+1))):=(by rw [kgh c];unfold kdd;split <;> split <;> omega);rw [hv,qs (show (0:Int)<=((m - (1+Tm.sizeL (l.take i)):Nat):Int) by omega)];simp only [qe,qf,q1,q2,qb,d,kfl i]
    first | exact .inl ⟨rfl,rfl⟩ | exact .inl ⟨trivial,trivial⟩
   ·have hv:kdd m (1+Tm.sizeL (l.take i)) = -1:=(by unfold kdd;rw [qj hp]);have hf:kdd m (Tm.sizeL l+1) = -1:=(by unfold kdd;rw [qj (by omega)]);rw [hv,hf];exact .inr ⟨_,_,rfl,rfl,rfl,rfl⟩) (by
   have e:=kek l (min l.length m) (by omega);by_cases o:l.length<=m;have b:min l.length m=l.length:=(by omega);have b1:decide ((l.length:Int)<((Tm.mk r0 l).args.length:Int))=false:=qp (by show ¬ (l.length:Int)<(l.length:Int);omega);have hf:kdd m (1+Tm.sizeL l)=kdd m (Tm.sizeL l+1):=(by rw [Nat.add_comm]);simp only [b,kaz,kaz,b1,qf,qb,qae,hf];exact ⟨_,_,rfl,rfl,rfl,rfl⟩
   ·have b:min l.length m=m:=(by omega);rw [b] at e;have b1:decide ((m:Int)<((Tm.mk r0 l).args.length:Int))=true:=qs (by show (m:Int)<(l.length:Int);omega);have c:m<l.length:=(by omega);have e1:(Tm.mk r0 l).args[m]?=some l[m]:=qa c;have hv:kdd m (1+Tm.sizeL (l.take m)) = -1:=(by unfold kdd;rw [qj (by omega)]);have hf:kdd m (Tm.sizeL l+1) = -1:=(by unfold kdd;rw [qj (by omega)]);simp only [b,kaz,kaz,b1,qe,qb,kag,e1,hv,hf];exact ⟨_,_,rfl,rfl,rfl,rfl⟩)
  have p:kac (kaz (Tm.mk r0 l) (kbd n)) fuel (w64 ((m:Int) - 1),0)=some r:=by rw [a];simpa using h1
  have g:kac (kaz (Tm.mk r0 l) (kbd n)) fuel (w64 ((m:Int) - 1),0)=some r':=by rw [a];simpa using j
  unfold kdi;rw [g,f,<- k];exact ⟨rfl,rfl⟩
theorem kdg {t:Tm}:Tm.sizeL t.args+1=t.size:=by cases t;rfl
theorem kkg (l:List Tm):l.length<=Tm.sizeL l:=by have:=(kek l l.length (qy _)).1;rw [qae] at this;exact this
theorem k2h (t:Tm) (m:Nat) (hm:m<=10000):kes t (m:Int)=some (decide (t.size<=m)):=by unfold kes;rw [(kve fuel t m hm (kb8 (by omega))).1,qb];refine qau some (decide_eq_decide.2 ?_);unfold kdd;split <;> omega
theorem klv (g:Tm->Int) (t:Tm):t.pre g=g t::Tm.preL g t.args:=by cases t;rfl
theorem kfy {t x:Tm} (h:x∈t.args):x.size<t.size:=by have:=Tm.sizeL_mem h;have:=kdg (t:=t);omega
theorem khl (t:Tm):t.args.length<t.size:=by have:=kkg t.args;have:=kdg (t:=t);omega
theorem kq0 (g:Tm->Int) (r:Tm->Option (List Int)):∀ (xs:List Tm) (acc:List Int),acc.length+Tm.sizeL xs<=1000000->(∀ x∈xs,r x=some (x.pre g))->xs.foldlM (fun s x=>Option.bind (r x) fun v=>app 8 s v) acc=some (acc++Tm.preL g xs)
 | [],acc,_,_=>by simp [Tm.preL]
 | x::xs,acc,hl,h=>by have hs:Tm.sizeL (x::xs)=x.size+Tm.sizeL xs:=rfl;rw [List.foldlM_cons,h x (qq ..),qb,kb4 (by rw [Tm.pre_length];omega)];have:=kq0 g r xs (acc++x.pre g) (by rw [qaj,Tm.pre_length];omega) fun y hy=>h y (qh _ hy);show List.foldlM _ (acc++x.pre g) xs=_;rw [this,qa1];rfl
theorem kqf:∀ (n:Nat) (t:Tm),t.size<=n->t.size<=1000->kbn n t=some t.rules
 | 0,t,h,_=>by have:=Tm.size_pos t;omega
 | n+1,t,h,hl=>by
  show keg (kbn n) t=_;have b:=khl t;have c:=kdg (t:=t);unfold keg;rw [kh8 (step:=kd1 t (kbn n)) t.args (fun s x=>Option.bind (kbn n x) fun v=>app 8 s v) (fun i s=>(i,s)) (by omega) (fun i x s a=>by
   have hi:=ka8 a;simp only [kd1,kan hi,qe,kag,a,qb,kak hi (show t.args.length<=9223372036854775807 by omega)];cases kbn n x with
   | none=>rfl
   | some v=>simp only [qb];cases app 8 s v <;> rfl) (fun s=>by simp only [kd1,kal,qf])]
  rw [kq0 Tm.rule _ t.args _ (by rw [qak];omega) fun x a=>kqf n x (by have:=kfy a;omega) (by have:=kfy a;omega)];show some _=some (t.pre Tm.rule);rw [klv];rfl
theorem koh:∀ (n:Nat) (t:Tm),t.size<=n->t.size<=1000->kbe n t=some t.arities
 | 0,t,h,_=>by have:=Tm.size_pos t;omega
 | n+1,t,h,hl=>by
  show kdk (kbe n) t=_;have b:=khl t;have c:=kdg (t:=t);unfold kdk;rw [kh8 (step:=kde t (kbe n)) t.args (fun s x=>Option.bind (kbe n x) fun v=>app 8 s v) (fun i s=>(i,s)) (by omega) (fun i x s a=>by
   have hi:=ka8 a;simp only [kde,kan hi,qe,kag,a,qb,kak hi (show t.args.length<=9223372036854775807 by omega)];cases kbe n x with
   | none=>rfl
   | some v=>simp only [qb];cases app 8 s v <;> rfl) (fun s=>by simp only [kde,kal,qf])]
  rw [kq0 Tm.nargs _ t.args _ (by rw [qak];omega) fun x a=>koh n x (by have:=kfy a;omega) (by have:=kfy a;omega)];show some _=some (t.pre Tm.nargs);rw [klv];rfl
theorem klo (r:Tm->Option Int):∀ (xs:List Tm) (s:Nat),s+Tm.sizeL xs<=1000000->(∀ x∈xs,r x=some (x.size:Int))->xs.foldlM (fun (s:Int) x=>Option.bind (r x) fun v=>some (w64 (s+v))) (s:Int)=some ((s+Tm.sizeL xs:Nat):Int)
 | [],s,_,_=>by simp [Tm.sizeL]
 | x::xs,s,hl,h=>by have hs:Tm.sizeL (x::xs)=x.size+Tm.sizeL xs:=rfl;rw [List.foldlM_cons,h x (qq ..),qb,kdf];have:=klo r xs (s+x.size) (by omega) fun y hy=>h y (qh _ hy);show List.foldlM _ ((s:Int)+(x.size:Int)) xs=_;rw [show (s:Int)+(x.size:Int)=((s+x.size:Nat):Int) by omega,this,hs];congr 2;omega
theorem ksp:∀ (n:Nat) (t:Tm),t.size<=n->t.size<=1000->kbi n t=some (t.size:Int)
 | 0,t,h,_=>by have:=Tm.size_pos t;omega
 | n+1,t,h,hl=>by show ker (kbi n) t=_;have b:=khl t;have c:=kdg (t:=t);unfold ker;rw [kh8 (step:=kef t (kbi n)) t.args (fun s x=>Option.bind (kbi n x) fun v=>some (w64 (s+v))) (fun i s=>(s,i)) (by omega) (fun i x s a=>by have hi:=ka8 a;simp only [kef,kan hi,qe,kag,a,qb,kak hi (show t.args.length<=9223372036854775807 by omega)];cases kbi n x <;> rfl) (fun s=>by simp only [kef,kal,qf])];have:=klo (kbi n) t.args 1 (by omega) fun x a=>ksp n x (by have:=kfy a;omega) (by have:=kfy a;omega);rw [show (1:Int)=((1:Nat):Int) from rfl,this,qb];congr 2;omega
def lexC:List Int->List Int->Int
 | x::xs,y::ys=>if x<y then -1 else if y<x then 1 else lexC xs ys
 | _,_=>0
def lexO:List Int->List Int->Unit ⊕ Int
 | x::xs,y::ys=>if x<y then .inr (-1) else if y<x then .inr 1 else lexO xs ys
 | _,_ => .inl ()
theorem kot:∀ xs ys:List Int,Sum.elim (fun _=>0) id (lexO xs ys)=lexC xs ys
 | [],_=>rfl
 | _::_,[]=>rfl
 | x::xs,y::ys=>by
  simp only [lexO,lexC];split;rfl
  ·split;rfl
   ·exact kot xs ys
theorem kzh (x y:List Int) (hl:x.length=y.length) (d:x.length<=1000000):kas x y=some (lexC x y):=by
 unfold kas;have h:=kle (kav x y) x.length (fun i=>(i:Int)) (fun i=>lexO (x.drop i) (y.drop i)) (fun i hi=>by
  have hy:i<y.length:=by omega
  simp only [kav,kan hi,kan hy,qe,kag,qa hi,qa hy,qb,kak hi (show x.length<=9223372036854775807 by omega),qbb hi,qbb hy,lexO];by_cases h1:x[i]<y[i];rw [qs h1,qn h1];exact .inr rfl
  ·rw [qp h1,qj h1];by_cases a:y[i]<x[i];rw [qs a,qn a];exact .inr rfl
   ·rw [qp a,qj a];exact .inl ⟨rfl,rfl⟩) (by
  simp only [kav,kal,qf,List.drop_length,lexO,qb])
 have b:kac (kav x y) fuel 0=some (lexO x y):=by simpa using h
 rw [b,qb,<- kot];cases lexO x y with
 | inr c=>rfl
 | inl u=>
  simp only [qaq];unfold kcz;have e1:decide ((x.length:Int)<(y.length:Int))=false:=qp (by omega);have e2:decide ((y.length:Int)<(x.length:Int))=false:=qp (by omega);simp [e1,e2,hl]
def cmpT (a b:Tm):Int:=if a.size<b.size then -1 else if b.size<a.size then 1 else if lexC a.rules b.rules≠0 then lexC a.rules b.rules else lexC a.arities b.arities
theorem krq (a b:Tm) (ha:a.size<=1000) (d:b.size<=1000):kbl a b=some (cmpT a b):=by
 unfold kbl cmpT;rw [ksp fuel a (Nat.le_of_lt (kb8 (by omega))) ha,ksp fuel b (Nat.le_of_lt (kb8 (by omega))) d];simp only [qb,kcz];by_cases h1:a.size<b.size;rw [qn h1,qs (show (a.size:Int)<(b.size:Int) by omega)];rfl;rw [qj h1,qp (show ¬ (a.size:Int)<(b.size:Int) by omega)];by_cases e:b.size<a.size;rw [qn e,qs (show (b.size:Int)<(a.size:Int) by omega)];rfl;rw [qj e,qp (show ¬ (b.size:Int)<(a.size:Int) by omega)];simp only [qf,qb,show ((0:Int) != 0)=false from rfl];rw [kqf fuel a (Nat.le_of_lt (kb8 (by omega))) ha,kqf fuel b (Nat.le_of_lt (kb8 (by omega))) d];simp only [qb];rw [kzh a.rules b.rules (by rw [Tm.rules_length,Tm.rules_length];omega) (by rw [Tm.rules_length];omega),qb];by_cases c:lexC a.rules b.rules=0;rw [qj (by simpa using c),c,show ((0:Int) != 0)=false from rfl,qf];rw [koh fuel a (Nat.le_of_lt (kb8 (by omega))) ha,koh fuel b (Nat.le_of_lt (kb8 (by omega))) d];simp only [qb];rw [kzh a.arities b.arities (by rw [Tm.arities_length,Tm.arities_length];omega) (by rw [Tm.arities_length];omega)];rfl
 ·rw [qn c,show (lexC a.rules b.rules != 0)=true by rw [bne_iff_ne];exact c];rfl
theorem kaaz (x y:Int):kkr [x,y]=some (if x≠0 then x else y):=by
 unfold kkr;have h:kac (khc [x,y]) fuel 0=some (if x≠0 then .inr x else if y≠0 then .inr y else .inl ()):=by
  have h0:khc [x,y] 0=if x≠0 then some (.inr (.inr x)) else some (.inl 1):=by
   have e:idx [x,y] 0=some x:=kag [x,y] 0;show (bif decide ((0:Int)<(([x,y]:List Int).length:Int)) then _ else _)=_;rw [show decide ((0:Int)<(([x,y]:List Int).length:Int))=true from rfl,qe,e,qb];by_cases a:x=0;subst a;rfl
   ·rw [show (x != 0)=true by rw [bne_iff_ne];exact a,qn a];rfl
  have h1:khc [x,y] 1=if y≠0 then some (.inr (.inr y)) else some (.inl 2):=by
   have e:idx [x,y] 1=some y:=kag [x,y] 1;show (bif decide ((1:Int)<(([x,y]:List Int).length:Int)) then _ else _)=_;rw [show decide ((1:Int)<(([x,y]:List Int).length:Int))=true from rfl,qe,e,qb];by_cases hy:y=0;subst hy;rfl
   ·rw [show (y != 0)=true by rw [bne_iff_ne];exact hy,qn hy];rfl
  have b:khc [x,y] 2=some (.inr (.inl ())):=rfl;rw [show fuel=18446744073709551613+1+1+1 from rfl,kac,h0];by_cases a:x=0
  ·rw [qj (by simpa using a),qj (by simpa using a)];simp only;rw [kac,h1];by_cases hy:y=0;rw [qj (by simpa using hy),qj (by simpa using hy)];simp only;rw [kac,b]
   ·rw [qn hy,qn hy]
  ·rw [qn a,qn a]
 rw [h,qb];by_cases a:x=0 <;> by_cases hy:y=0 <;> simp [a,hy]
mutual
theorem kol:∀ (s t:Tm) (xs ys us vs:List Int),s.pre Tm.rule++xs=t.pre Tm.rule++ys->s.pre Tm.nargs++us=t.pre Tm.nargs++vs->s=t/\xs=ys/\us=vs
 | .mk r l, .mk r' l',xs,ys,us,vs,h1,a=>by
  simp only [Tm.pre,qbp,List.cons.injEq] at h1 a;have hr:r=r':=h1.1;have hl:l.length=l'.length:=by have:=a.1;simp only [Tm.nargs,Tm.args] at this;omega
  obtain ⟨e1,e2,e3⟩:=km2 l l' hl xs ys us vs h1.2 a.2;exact ⟨by rw [hr,e1],e2,e3⟩
theorem km2:∀ (l l':List Tm),l.length=l'.length->∀ (xs ys us vs:List Int),Tm.preL Tm.rule l++xs=Tm.preL Tm.rule l'++ys->Tm.preL Tm.nargs l++us=Tm.preL Tm.nargs l'++vs->l=l'/\xs=ys/\us=vs
 | [],[],_,xs,ys,us,vs,h1,a=>⟨rfl,by simpa [Tm.preL] using h1,by simpa [Tm.preL] using a⟩
 | [],_::_,h,_,_,_,_,_,_=>by simp at h
 | _::_,[],h,_,_,_,_,_,_=>by simp at h
 | t::l,t'::l',h,xs,ys,us,vs,h1,a=>by simp only [Tm.preL,qa1] at h1 a;obtain ⟨e1,e2,e3⟩:=kol t t' _ _ _ _ h1 a;obtain ⟨e4,e5,e6⟩:=km2 l l' (by simpa using h) xs ys us vs e2 e3;exact ⟨by rw [e1,e4],e5,e6⟩
end
structure Ord3 {α:Type} (E:α->α->Prop) (c:α->α->Int):Prop where
 anti:∀ x y,E x y->c y x = -c x y
 trans:∀ x y z,E x y->E y z->E x z->c x y<=0->c y z<=0->c x z<=0
def lex {α:Type} (c d:α->α->Int) (x y:α):Int:=if c x y≠0 then c x y else d x y
theorem Ord3.lex {α:Type} {E:α->α->Prop} {c d:α->α->Int} (a:∀ x y,E x y->E y x) (hc:Ord3 E c) (f:Ord3 (fun x y=>E x y/\c x y=0) d):Ord3 E (lex c d):=by
 have z:∀ x y,E x y->(c y x=0↔c x y=0):=fun x y e=>by rw [hc.anti x y e];omega
 refine ⟨fun x y e=>?_,fun x y z e1 e2 e3 h1 b=>?_⟩
 ·unfold Go.Proofs.YtnlhjbnpjefjgaaGreatDoor.lex;by_cases h:c x y=0;rw [qj (by rw [(z x y e).2 h];decide),qj (by rw [h];decide)];exact f.anti x y ⟨e,h⟩
  ·rw [qn (fun g=>h ((z x y e).1 g)),qn h];exact hc.anti x y e
 ·unfold Go.Proofs.YtnlhjbnpjefjgaaGreatDoor.lex at h1 b ⊢;have k1:c x y<=0:=by split at h1 <;> omega
  have k2:c y z<=0:=by split at b <;> omega
  have k3:=hc.trans x y z e1 e2 e3 k1 k2;by_cases h:c x z=0;have a1:=hc.anti x y e1;have a2:=hc.anti y z e2;have a3:=hc.anti x z e3;have b1:=hc.trans y z x e2 (a _ _ e3) (a _ _ e1) k2 (by omega);have b2:=hc.trans z x y (a _ _ e3) e1 (a _ _ e2) (by omega) k1;have c1:c x y=0:=(by omega);have c2:c y z=0:=(by omega);rw [qj (by rw [c1];decide)] at h1;rw [qj (by rw [c2];decide)] at b;rw [qj (by rw [h];decide)];exact f.trans x y z ⟨e1,c1⟩ ⟨e2,c2⟩ ⟨e3,h⟩ h1 b
  ·rw [qn h];exact k3
def cmpZ {α:Type} (f:α->Int) (x y:α):Int:=if f x<f y then -1 else if f y<f x then 1 else 0
theorem ks6 {α:Type} {E:α->α->Prop} (f:α->Int):Ord3 E (cmpZ f):=by
 refine ⟨fun x y _=>?_,fun x y z _ _ _ h1 a=>?_⟩;unfold cmpZ;split <;> split <;> omega
 ·unfold cmpZ at *
  split at h1
  ·split at a;rw [qn (by omega)];decide
   ·split at a;omega
    ·rw [qn (by omega)];decide
  ·split at h1;omega
   ·split at a;rw [qn (by omega)];decide
    ·split at a;omega
     ·rw [qj (by omega),qj (by omega)];decide
theorem kiz:∀ xs ys:List Int,xs.length=ys.length->lexC ys xs = -lexC xs ys
 | [],[],_=>rfl
 | [],_::_,h=>by simp at h
 | _::_,[],h=>by simp at h
 | x::xs,y::ys,h=>by
  have ih:=kiz xs ys (by simpa using h);simp only [lexC];rcases Int.lt_trichotomy x y with h1 | h1 | h1;rw [qj (by omega),qn h1,qn h1];rfl;rw [qj (by omega),qj (by omega),qj (by omega),qj (by omega),ih]
  ·rw [qn h1,qj (by omega),qn h1]
theorem kh3:∀ xs ys zs:List Int,xs.length=ys.length->ys.length=zs.length->lexC xs ys<=0->lexC ys zs<=0->lexC xs zs<=0
 | [],_,_,_,_,_,_=>by simp [lexC]
 | _::_,[],_,h,_,_,_=>by simp at h
 | _::_,_::_,[],_,h,_,_=>by simp at h
 | x::xs,y::ys,z::zs,h,g,h1,a=>by
  have ih:=kh3 xs ys zs (by simpa using h) (by simpa using g);simp only [lexC] at h1 a ⊢;split at h1
  ·split at a;rw [qn (by omega)];decide
   ·split at a;omega
    ·rw [qn (by omega)];decide
  ·split at h1;omega
   ·split at a;rw [qn (by omega)];decide
    ·split at a;omega
     ·rw [qj (by omega),qj (by omega)];exact ih h1 a
theorem kkz:∀ xs ys:List Int,xs.length=ys.length->lexC xs ys=0->xs=ys
 | [],[],_,_=>rfl
 | [],_::_,h,_=>by simp at h
 | _::_,[],h,_=>by simp at h
 | x::xs,y::ys,h,h1=>by
  simp only [lexC] at h1;split at h1;omega
  ·split at h1;omega
   ·rw [kkz xs ys (by simpa using h) h1,show x=y by omega]
theorem klr:∀ xs:List Int,lexC xs xs=0
 | []=>rfl
 | x::xs=>by simp only [lexC,Int.lt_irrefl,if_false];exact klr xs
theorem ksq (a b:Tm):cmpT a b=lex (cmpZ fun t:Tm=>(t.size:Int)) (lex (fun a b=>lexC a.rules b.rules) (fun a b=>lexC a.arities b.arities)) a b:=by
 unfold cmpT lex cmpZ;by_cases h1:a.size<b.size;rw [qn h1,qn (show (a.size:Int)<(b.size:Int) by omega),qn (by decide)]
 ·rw [qj h1,qj (show ¬ (a.size:Int)<(b.size:Int) by omega)];by_cases c:b.size<a.size;rw [qn c,qn (show (b.size:Int)<(a.size:Int) by omega),qn (by decide)]
  ·rw [qj c,qj (show ¬ (b.size:Int)<(a.size:Int) by omega),qj (show ¬ ((0:Int)≠0) by decide)]
theorem cmpZ_zero {α:Type} {f:α->Int} {x y:α}:cmpZ f x y=0↔f x=f y:=by
 unfold cmpZ;split;omega
 ·split <;> omega
theorem cmpT_ord:Ord3 (fun _ _=>True) cmpT:=by
 have:cmpT=lex (cmpZ fun t:Tm=>(t.size:Int)) (lex (fun a b=>lexC a.rules b.rules) (fun a b=>lexC a.arities b.arities)):=by funext a b;exact ksq a b
 rw [this];have c:∀ {a b:Tm},cmpZ (fun t:Tm=>(t.size:Int)) a b=0->a.size=b.size:=fun h=>by have:=cmpZ_zero.1 h;omega
 refine Ord3.lex (fun _ _ _=>trivial) (ks6 _) (Ord3.lex (fun x y h=>⟨trivial,by have:=c h.2;exact cmpZ_zero.2 (by omega)⟩) ⟨fun x y h=>?_,fun x y z h1 d _=>?_⟩ ⟨fun x y h=>?_,fun x y z h1 d _=>?_⟩);exact kiz _ _ (by rw [Tm.rules_length,Tm.rules_length];exact c h.2);exact kh3 _ _ _ (by rw [Tm.rules_length,Tm.rules_length];exact c h1.2) (by rw [Tm.rules_length,Tm.rules_length];exact c d.2);exact kiz _ _ (by rw [Tm.arities_length,Tm.arities_length];exact c h.1.2)
 ·exact kh3 _ _ _ (by rw [Tm.arities_length,Tm.arities_length];exact c h1.1.2) (by rw [Tm.arities_length,Tm.arities_length];exact c d.1.2)
theorem cmpT_eq0 {s t:Tm}:cmpT s t=0↔s=t:=by
 constructor
 ·intro h;unfold cmpT at h;split at h;omega
  ·split at h;omega
   ·have hs:s.size=t.size:=(by omega);split at h;rename_i h0;exact absurd h h0
    ·rename_i h0;have e1:=kkz s.rules t.rules (by rw [Tm.rules_length,Tm.rules_length];exact hs) (by simpa using h0);have e2:=kkz s.arities t.arities (by rw [Tm.arities_length,Tm.arities_length];exact hs) h;exact (kol s t [] [] [] [] (by simpa [Tm.rules] using e1) (by simpa [Tm.arities] using e2)).1
 ·rintro rfl;unfold cmpT;simp [klr]
structure SR (R:Type) where
 add:R->R->R
 mul:R->R->R
 zero:R
 one:R
 add_assoc:∀ a b c,add (add a b) c=add a (add b c)
 add_comm:∀ a b,add a b=add b a
 zero_add:∀ a,add zero a=a
 mul_assoc:∀ a b c,mul (mul a b) c=mul a (mul b c)
 mul_comm:∀ a b,mul a b=mul b a
 mul_add:∀ a b c,mul a (add b c)=add (mul a b) (mul a c)
 mul_zero:∀ a,mul a zero=zero
 mul_one:∀ a,mul a one=a
namespace SR
variable {R:Type} (S:SR R)
end SR
namespace SR
variable {R:Type} (S:SR R)
end SR
theorem kqn {α:Type}:∀ (xs ys:List α),xs.Nodup->(∀ x∈xs,x∈ys)->xs.length<=ys.length
 | [],ys,_,_=>qar _
 | x::xs,ys,h,hs=>by
  obtain ⟨a,b,rfl⟩:=List.append_of_mem (hs x (qq ..));rw [List.nodup_cons] at h;have:=kqn xs (a++b) h.2 fun y hy=>by
   have h1:=hs y (qh _ hy);have c:y≠x:=fun e=>h.1 (e ▸ hy);simp only [qab,qat] at h1 ⊢;rcases h1 with h1 | h1 | h1;exact .inl h1;exact absurd h1 c
   ·exact .inr h1
  simp only [qaj,qbq] at this ⊢;omega
def ilk {α:Type} (m:List (Int×α)) (k:Int):Option α:=(imf k m 0).map (·.2)
theorem k43 {α:Type} (m:List (Int×α)) (k:Int):ihas m k=(ilk m k).isSome:=by unfold ihas ilk;cases imf k m 0 <;> rfl
theorem k5x {α:Type} (m:List (Int×α)) (k:Int) (z:α):iget m k z=(ilk m k).getD z:=by unfold iget ilk;cases imf k m 0 <;> rfl
theorem ks8 {α:Type} (k:Int):∀ (m:List (Int×α)) (i:Nat),imf k m (i+1)=(imf k m i).map fun p=>(p.1+1,p.2)
 | [],_=>rfl
 | (k',x)::l,i=>by
  simp only [imf];cases k == k' with
  | true=>rfl
  | false=>exact ks8 k l (i+1)
theorem kms {α:Type} (k':Int) (x:α) (l:List (Int×α)) (k:Int):ilk ((k',x)::l) k=if k=k' then some x else ilk l k:=by
 unfold ilk;simp only [imf];by_cases h:k=k';subst h;simp
 ·rw [qj h,show (k == k')=false by simp [h],qf,ks8];cases imf k l 0 <;> rfl
theorem k24 {α:Type} (k':Int) (x:α) (l:List (Int×α)) (k:Int) (y:α):iput ((k',x)::l) k y=if k=k' then (k,y)::l else (k',x)::iput l k y:=by
 unfold iput;simp only [imf];by_cases h:k=k';subst h;simp
 ·rw [qj h,show (k == k')=false by simp [h],qf,ks8];cases imf k l 0 <;> rfl
theorem ks7 {α:Type} (k:Int) (y:α) (r:Int):∀ m:List (Int×α),ilk (iput m k y) r=if r=k then some y else ilk m r
 | []=>by show ilk [(k,y)] r=_;rw [kms]
 | (k',x)::l=>by
  rw [k24];by_cases h:k=k'
  ·rw [qn h,kms,kms];subst h;by_cases a:r=k;rw [qn a,qn a]
   ·rw [qj a,qj a,qj a]
  ·rw [qj h,kms,kms,ks7 k y r l];by_cases a:r=k';subst a;rw [qn rfl,qj (fun e=>h e.symm),qn rfl]
   ·rw [qj a,qj a]
theorem cmpN (a b:Int):kf8 a b=some (if a<b then -1 else if b<a then 1 else 0):=by
 simp only [kf8,ke6,bne_self_eq_false,qb,qf];by_cases h1:a<b;rw [qs h1,qn h1];rfl
 ·rw [qp h1,qj h1];by_cases c:b<a;rw [qs c,qn c];rfl
  ·rw [qp c,qj c];rfl
def lexQ:List Int->List Int->Unit ⊕ Int
 | x::xs,y::ys=>if x<y then .inr (-1) else if y<x then .inr 1 else lexQ xs ys
 | _::_,[] => .inr 1
 | [],_ => .inl ()
theorem kvr:∀ xs ys:List Int,cmpI xs ys=Sum.elim (fun _=>if xs.length<ys.length then -1 else 0) id (lexQ xs ys)
 | [],[]=>rfl
 | [],_::_=>by simp [cmpI,lexQ]
 | _::_,[]=>by simp [cmpI,lexQ]
 | x::xs,y::ys=>by
  simp only [cmpI,lexQ];split;rfl
  ·split;rfl
   ·rw [kvr xs ys];congr 1;funext u;simp
theorem kaby (x y:List Int) (e:x.length<=9223372036854775807):kec x y=some (cmpI x y):=by
 unfold kec;have h:=kle (kcj x y) x.length (fun i=>(i:Int)) (fun i=>lexQ (x.drop i) (y.drop i)) (fun i a=>by
  simp only [kcj,kan a,qe,kag,qa a,qb,kak a e,qbb a];by_cases b:i<y.length
  ·rw [qp (show ¬ (y.length:Int)<=(i:Int) by omega),qf];simp only [qa b,qb,qbb b,lexQ,cmpN];by_cases h1:x[i]<y[i];simp only [qn h1];exact .inr rfl
   ·simp only [qj h1];by_cases d:y[i]<x[i];simp only [qn d];exact .inr rfl
    ·simp only [qj d];first | exact .inl ⟨rfl,rfl⟩ | exact .inl ⟨rfl,trivial⟩
  ·rw [qs (show (y.length:Int)<=(i:Int) by omega),qe,List.drop_eq_nil_of_le (show y.length<=i by omega)];exact .inr rfl) (by
  simp only [kcj,kal,qf,List.drop_length,lexQ])
 have f:kac (kcj x y) fuel 0=some (lexQ x y):=by simpa using h
 rw [f,qb,kvr];cases lexQ x y with
 | inr c=>rfl
 | inl u=>
  simp only [qaq];by_cases h1:x.length<y.length;rw [qs (by omega),qn h1];rfl
  ·rw [qp (by omega),qj h1];rfl
theorem k9n (a b:Opn) (ha:a.yb.length<=9223372036854775807):kdv a b=some (kfb a b):=by
 unfold kdv kfb;rw [cmpN,qb,kaby _ _ ha,qb,kaaz,qb];congr 1;by_cases h1:a.yd<b.yd;rw [qn h1,qn (by omega),qn (by omega)];simp [cmpI,h1]
 ·by_cases c:b.yd<a.yd;rw [qj h1,qn c,qn (by omega),qn (by omega)];simp [cmpI,h1,c]
  ·rw [qj h1,qj c,qj (by omega),qj (by omega)]
theorem asc_p (l:List Int) (n:Nat) (hl:l.length<=9223372036854775807):Ev (khf l (n:Int)) fun b=>b=true↔AscP l n:=by
 have h:khi l (n:Int)=ka5 l (n:Int):=by
  funext v;simp only [khi,ka5];cases decide (v<(l.length:Int)) with
  | false=>rfl
  | true=>cases idx l v <;> rfl
 unfold khf;rw [h];exact kz9 l n hl
theorem k9j (x y:List Int) (c:x.length<=9223372036854775807):kcr x y=some (decide (x=y)):=by
 unfold kcr;by_cases hl:x.length=y.length
 ·rw [show ((x.length:Int) != (y.length:Int))=false by simp [hl],qf];rcases kgm (kb5 x y) x.length (fun i=>decide (x[i]?≠y[i]?)) (fun _ => .inr false) (.inl ()) (fun i hi=>by
   have b:i<y.length:=(by omega);simp only [kb5,kan hi,qe,kag,qa hi,qa b,qb,kak hi c];by_cases h:x[i]=y[i];rw [show (x[i] != y[i])=false by simp [h],qj (by simp [h])];rfl
   ·rw [show (x[i] != y[i])=true by simp [h],qn (by simp [h])];rfl) (by simp only [kb5,kal,qf]) with ⟨i,hi,a,_,hr⟩ | ⟨a,hr⟩
  rw [hr];rw [qay] at a;rw [qp (fun e=>a (by rw [e]))];rfl
  ·rw [hr];have:x=y:=qb1 fun i=>by
    by_cases hi:i<x.length;have:=a i hi;simpa using this
    ·rw [qa4 (by omega),qa4 (by omega)]
   rw [qs this];rfl
 ·rw [show ((x.length:Int) != (y.length:Int))=true by simp;omega,qe,qp (fun e=>hl (by rw [e]))]
def shp (ns:List Nod) (i:Nat) (o:Opn):List Int:=syAt ns (i:Int)::o.yb.map (syAt ns)
theorem shp_sgn {ns:List Nod} {i k:Nat} {o p:Opn}:shp ns i o=shp ns k p↔sgn ns i o=sgn ns k p:=by unfold shp sgn;simp
theorem k93 {s:Spa} {i:Nat} {n:Nod} {o:Opn} (hn:s.ya[i]?=some n) (ho:∀ a∈o.yb,0<=a/\a<(s.ya.length:Int)) (hl:o.yb.length<=1000):kie s n o=some (shp s.ya i o):=by
 unfold kie;have h:=kmr (kfo s o) o.yb.length (fun k=>((k:Int),n.yg::(o.yb.take k).map (syAt s.ya))) (shp s.ya i o) (fun k hk=>by
  obtain ⟨m,e1,e2,_,e3⟩:=kjy s.ya (ho _ (qo hk)).1 (h1:=(ho _ (qo hk)).2);simp only [kfo,kan hk,qe,kag,qa hk,qb,e1,kak hk (show o.yb.length<=9223372036854775807 by omega)];rw [kb4 (by simp;omega),qb,qx hk,qas];simp [e3]) (by
  simp only [kfo,kal,qf,qae];unfold shp;rw [kjz hn])
 have b:kac (kfo s o) fuel (0,([n.yg]:List Int))=some (shp s.ya i o):=by simpa using h
 rw [b,qb]
theorem kabd {s:Spa} {i:Nat} {n:Nod} (o:Opn) (v4:Int×Int×List (Int×List Int)) (hv:v4.2.1=(i:Int)) (hn:s.ya[i]?=some n) (g:∀ (k:Nat) (m:Nod),k<=i->s.ya[k]?=some m->1<=m.yf/\m.yf<=24) (p:o.yb.length<=9223372036854775807):
  Ev (kac (kf5 s v4 o) fuel (1,0)) fun r=>(∃ z,r = .inl z/\o.yb.length<=48/\(∀ a∈o.yb,0<=a/\a<(i:Int))/\z=1+(o.yb.map (szAt s.ya)).sum)\/(r = .inr false/\¬ OptP s.ya i n o):=by
 have hi:=(qd.1 hn).1;have q:=g i n (qy _) hn;have b:∀ a:Int,0<=a->a<(i:Int)->∃ m,idx s.ya a=some m/\szAt s.ya a=m.yf/\1<=m.yf/\m.yf<=24:=fun a h0 h1=>by obtain ⟨m,e1,e2,e3,_⟩:=kjy s.ya h0;have:=g a.toNat m (by omega) e2;exact ⟨m,e1,e3,this.1,this.2⟩
 refine ka4 (xs:=o.yb) (step:=kf5 s v4 o) (Q:=fun r=>(∃ z,r = .inl z/\o.yb.length<=48/\(∀ a∈o.yb,0<=a/\a<(i:Int))/\z=1+(o.yb.map (szAt s.ya)).sum)\/(r = .inr false/\¬ OptP s.ya i n o))
  (fun (j:Nat) (z:Int)=>(z,(j:Int))) (fun j z=>(∀ a∈o.yb.take j,0<=a/\a<(i:Int))/\z=1+((o.yb.take j).map (szAt s.ya)).sum/\(j:Int)+1<=z/\z<=48) p ⟨by simp,by simp,by omega,by omega⟩ (fun j z c ⟨h1,l,t,u⟩=>?_) (fun z ⟨h1,l,t,u⟩=>?_)
 ·simp only [kf5,kan c,qe,kag,qa c,qb,kak c p,hv];by_cases b1:o.yb[j]<0;refine ⟨.inr (.inr false),by simp [b1], .inr ⟨rfl,fun d=>?_⟩⟩;have:=(d.args _ (qo c)).1;omega
  ·by_cases b2:(i:Int)<=o.yb[j];refine ⟨.inr (.inr false),by simp [b1,b2], .inr ⟨rfl,fun d=>?_⟩⟩;have:=(d.args _ (qo c)).2;omega
   ·by_cases b3:24<z;refine ⟨.inr (.inr false),by simp [b1,b2,b3], .inr ⟨rfl,fun d=>?_⟩⟩;have v:=d.size;rw [kvw _ _ j] at v;have x:=ko4 (f:=szAt s.ya) (o.yb.drop j) fun a ha=>(by have h:=d.args a (qbk ha);obtain ⟨m,_,e,w,_⟩:=b a h.1 h.2;omega);omega
    ·obtain ⟨m,e1,e2,w,y⟩:=b o.yb[j] (by omega) (by omega);have e3:w64 (z+m.yf)=z+m.yf:=kdf;refine ⟨.inl (z+m.yf,((j+1:Nat):Int)),by simp [b1,b2,b3,e1,e3],z+m.yf,rfl,fun a ha=>?_,?_,by omega,by omega⟩
     ·rw [qx c,qab,q9] at ha;rcases ha with ha | rfl;exact h1 a ha
      ·omega
     ·rw [kw0 _ c];omega
 ·refine ⟨_,by simp only [kf5,kal,qf],_,rfl, .inl ⟨z,rfl,by omega,?_,?_⟩⟩;rw [qae] at h1;exact h1
  ·rw [qae] at l;exact l
structure MI (ns:List Nod) (vis:Nat->Opn->Prop) (m:List (Int×List Int)):Prop where
 here:∀ r x,ilk m r=some x->∃ i o,vis i o/\o.yd=r/\x=shp ns i o
 all:∀ i o,vis i o->ilk m o.yd=some (shp ns i o)
theorem MI.congr {ns:List Nod} {v v':Nat->Opn->Prop} {m:List (Int×List Int)} (h:MI ns v m) (hv:∀ i o,v i o↔v' i o):MI ns v' m:=
 ⟨fun r x a=>let ⟨i,o,h1,b⟩:=h.here r x a;⟨i,o,(hv _ _).1 h1,b⟩,fun i o ho=>h.all i o ((hv _ _).2 ho)⟩
theorem k76 {ns:List Nod} {i:Nat} {n:Nod} (hn:ns[i]?=some n) (i':Nat) (o:Opn):visO ns i n.yc.length i' o↔visO ns (i+1) 0 i' o:=by
 constructor;rintro ⟨m,k',h1,b,a⟩;refine ⟨m,k',h1,b, .inl ?_⟩;rcases a with a | ⟨a,_⟩ <;> omega
 ·rintro ⟨m,k',h1,b,a⟩;refine ⟨m,k',h1,b,?_⟩;rcases a with a | ⟨_,a⟩
  ·by_cases c:i'=i;subst c;rw [hn] at h1;cases h1;exact .inr ⟨rfl,ka8 b⟩
   ·exact .inl (by omega)
  ·omega
theorem kaa2 {s:Spa} (I:kl9 s) {i:Nat} {n:Nod} (v4:Int×Int×List (Int×List Int)) (hv:v4.2.1=(i:Int)) (hn:s.ya[i]?=some n) (J:∀ (k:Nat) (m:Nod),k<=i->s.ya[k]?=some m->1<=m.yf/\m.yf<=24) {m:List (Int×List Int)} (hm:MI s.ya (visO s.ya i 0) m):
  Ev (kac (kf2 s v4 n) fuel (0,m)) fun r=>(∃ m',r = .inl m'/\MI s.ya (visO s.ya (i+1) 0) m'/\(∀ o∈n.yc,OptP s.ya i n o)/\∀ (k:Nat) (o p:Opn),n.yc[k]?=some o->n.yc[k+1]?=some p->kfb o p<0)\/(r = .inr false/\¬ kbh s):=by
 have e:=qk hn;have hi:=(qd.1 hn).1;have S:=I.opts n e;refine ka4 (xs:=n.yc) (step:=kf2 s v4 n) (Q:=fun r=>(∃ m',r = .inl m'/\MI s.ya (visO s.ya (i+1) 0) m'/\(∀ o∈n.yc,OptP s.ya i n o)/\∀ (k:Nat) (o p:Opn),n.yc[k]?=some o->n.yc[k+1]?=some p->kfb o p<0)\/(r = .inr false/\¬ kbh s))
  (fun (k:Nat) (m:List (Int×List Int))=>((k:Int),m)) (fun k m=>MI s.ya (visO s.ya i k) m/\(∀ (j:Nat) (o:Opn),j<k->n.yc[j]?=some o->OptP s.ya i n o)/\∀ (j:Nat) (o p:Opn),j+1<k->n.yc[j]?=some o->n.yc[j+1]?=some p->kfb o p<0) (t0:=m) (by omega) ⟨hm,fun j o h=>by omega,fun j o p h=>by omega⟩ (fun k m hk ⟨h0,h1,K⟩=>?_) (fun m ⟨h0,h1,K⟩=>?_)
 ·have ho:=qa hk;have f:=qo hk;have T:=I.args n e _ f;simp only [kf2,kan hk,qe,kag,ho,qb,kak hk (show n.yc.length<=9223372036854775807 by omega)];by_cases b1:n.yc[k].yd<0;simp only [qs b1,qe,qb];refine ⟨_,rfl, .inr ⟨rfl,fun h=>?_⟩⟩;have:=((h.node i n hn).opt _ f).rule;omega
  ·simp only [qp b1,qf]
   -- the order
   have C:Ev (bif decide ((0:Int)<(k:Int)) then Option.bind (idx n.yc (w64 ((k:Int) - 1))) fun v10=>Option.bind (kdv v10 n.yc[k]) fun v11=>some (decide (0<=v11)) else some false) fun b=>(b=false/\(∀ (j:Nat) (o p:Opn),j+1<k+1->n.yc[j]?=some o->n.yc[j+1]?=some p->kfb o p<0))\/(b=true/\¬ kbh s):=by
    by_cases h0:0<k
    ·have D:k - 1<n.yc.length:=(by omega);have e1:w64 ((k:Int) - 1)=((k - 1:Nat):Int):=(by rw [kdf];omega);have v:=qa D;have O:=I.args n e _ (qo D);simp only [qs (show (0:Int)<(k:Int) by omega),qe,e1,kag,v,qb];rw [k9n _ _ (by omega),qb];by_cases P:kfb n.yc[k - 1] n.yc[k]<0
     ·refine ⟨_,rfl, .inl ⟨qp (by omega),fun j o p E c w=>?_⟩⟩;by_cases y:j+1=k;have L:j=k - 1:=(by omega);subst L;rw [v] at c;cases c;rw [y,ho] at w;cases w;exact P
      ·exact K j o p (by omega) c w
     ·refine ⟨_,rfl, .inr ⟨qs (by omega),fun h=>?_⟩⟩;exact P ((h.node i n hn).asc (k - 1) _ _ v (by rw [show k - 1+1=k by omega];exact ho))
    ·simp only [qp (show ¬ (0:Int)<(k:Int) by omega),qf];exact ⟨false,rfl, .inl ⟨rfl,fun j o p E=>by omega⟩⟩
   refine kbp (Ev.mono C ?_);rintro b (⟨rfl,F⟩ | ⟨rfl,l⟩)
   ·simp only [qf];refine kbp (Ev.mono (kabd (n.yc[k]) v4 hv hn J (by omega)) ?_);rintro r (⟨z,rfl,U,ha,R⟩ | ⟨rfl,l⟩)
    ·simp only [qaq];have M:∀ a∈n.yc[k].yb,0<=a/\a<(s.ya.length:Int):=fun a h=>(by have:=ha a h;omega);rw [k93 hn M (by omega),qb];by_cases q:z=n.yf
     ·have V:OptP s.ya i n n.yc[k]:=⟨by omega,ha,by rw [<- R];exact q⟩;rw [show (z != n.yf)=false by simp [q],qf];have fin:∀ m',MI s.ya (visO s.ya i (k+1)) m'->m'=iput m n.yc[k].yd (shp s.ya i n.yc[k])->∃ t',(((k+1:Nat):Int),m')=(((k+1:Nat):Int),t')/\MI s.ya (visO s.ya i (k+1)) t'/\(∀ (j:Nat) (o:Opn),j<k+1->n.yc[j]?=some o->OptP s.ya i n o)/\∀ (j:Nat) (o p:Opn),j+1<k+1->n.yc[j]?=some o->n.yc[j+1]?=some p->kfb o p<0:=fun m' X _=>by
       refine ⟨m',rfl,X,fun j o E c=>?_,F⟩;by_cases y:j=k;subst y;rw [ho] at c;cases c;exact V
       ·exact h1 j o (by omega) c
      have t:(∀ x,ilk m n.yc[k].yd=some x->x=shp s.ya i n.yc[k])->MI s.ya (visO s.ya i (k+1)) (iput m n.yc[k].yd (shp s.ya i n.yc[k])):=fun A=>by
       refine ⟨fun r x d=>?_,fun i' o' B=>?_⟩
       ·rw [ks7] at d;by_cases hr:r=n.yc[k].yd;rw [qn hr] at d;injection d with d;exact ⟨i,_,(ki0 hn ho i _).2 (.inr ⟨rfl,rfl⟩),hr.symm,d.symm⟩
        ·rw [qj hr] at d;obtain ⟨i',o',g1,g2,g3⟩:=h0.here r x d;exact ⟨i',o',(ki0 hn ho i' o').2 (.inl g1),g2,g3⟩
       ·rw [ks7];rcases (ki0 hn ho i' o').1 B with B | ⟨rfl,rfl⟩
        ·have g:=h0.all i' o' B;by_cases hr:o'.yd=n.yc[k].yd;rw [qn hr];rw [hr] at g;rw [A _ g]
         ·rw [qj hr];exact g
        ·rw [qn rfl]
      rw [k43,k5x];cases hl:ilk m n.yc[k].yd with
      | none=>
       simp only [Option.isSome_none,qf,qb];refine ⟨_,rfl,fin _ (t fun x d=>by rw [hl] at d;cases d) rfl⟩
      | some x=>
       simp only [Option.isSome_some,qe,qam];obtain ⟨i',o',g1,g2,g3⟩:=h0.here _ _ hl;obtain ⟨n',G,u⟩:=k0f g1;have N:x.length<=9223372036854775807:=(by rw [g3];unfold shp;have:=I.args n' (qk G) o' u;simp;omega);rw [k9j _ _ N,qb,qb];by_cases d:x=shp s.ya i n.yc[k];rw [qs d];refine ⟨_,rfl,fin _ (t fun x' H=>by rw [hl] at H;cases H;exact d) rfl⟩
       ·rw [qp d];refine ⟨_,rfl, .inr ⟨rfl,fun h=>d ?_⟩⟩;rw [g3,shp_sgn];exact conP_iff.1 h.con i' i n' n o' _ G hn u f g2
     ·rw [show (z != n.yf)=true by simp [q],qe,qb];refine ⟨_,rfl, .inr ⟨rfl,fun h=>q ?_⟩⟩;rw [R];exact ((h.node i n hn).opt _ f).size
    ·exact ⟨_,rfl, .inr ⟨rfl,fun h=>l ((h.node i n hn).opt _ f)⟩⟩
   ·exact ⟨_,rfl, .inr ⟨rfl,l⟩⟩
 ·refine ⟨_,by simp only [kf2,kal,qf],_,rfl, .inl ⟨m,rfl,h0.congr (k76 hn),fun o ho=>?_,fun k o p ho hp=>K k o p (ka8 hp) ho hp⟩⟩;obtain ⟨j,E⟩:=qal.1 ho;exact h1 j o (ka8 E) E
theorem k2s {s:Spa} (g:kl9 s):Ev (khz s) fun b=>b=true↔kbh s:=by
 unfold khz;have t:=g.nodes;by_cases h1:s.ya.length<=4096
 ·have e1:decide ((4096:Int)<(s.ya.length:Int))=false:=qp (by omega);obtain ⟨b,l,f⟩:=asc_p s.ye s.ya.length (by have:=g.roots;omega);simp only [e1,qf,l,qb];cases b with
  | false=>exact ⟨false,rfl,⟨fun h=>absurd h qa0,fun h=>absurd (f.2 h.roots) qa0⟩⟩
  | true=>
   have d:=f.1 rfl;simp only [qbd,qf];refine kbp (Ev.mono (ka4 (xs:=s.ya) (step:=khj s) (Q:=fun r=>(r = .inl ()/\kbh s)\/(r = .inr false/\¬ kbh s))
    (fun (i:Nat) (c:Int×List (Int×List Int))=>(c.1,(i:Int),c.2)) (fun i c=>c.1=(optN (s.ya.take i):Int)/\optN (s.ya.take i)<=32768/\MI s.ya (visO s.ya i 0) c.2/\∀ (k:Nat) (n:Nod),k<i->s.ya[k]?=some n->NodP s.ya k n) (t0:=(0,[])) (by omega) ⟨by simp [optN],by simp [optN],⟨fun r x h=>(by cases h),fun i o h=>?_⟩,fun k n h=>by omega⟩ (fun i c hi ⟨c1,c2,c3,c4⟩=>?_) (fun c ⟨c1,c2,c3,c4⟩=>?_)) ?_)
   obtain ⟨n,k',_,_,h | ⟨_,h⟩⟩:=h <;> omega
   ·obtain ⟨c0,m⟩:=c;simp only at c1 c3;subst c1;have hn:=qa hi;have u:=g.opts _ (qo hi);have e2:w64 ((optN (s.ya.take i):Int)+(s.ya[i].yc.length:Int))=(optN (s.ya.take (i+1)):Int):=(by rw [kj3 hi,kdf];omega);simp only [khj,kan hi,qe,kag,hn,qb,e2,kak hi (show s.ya.length<=9223372036854775807 by omega)];by_cases b2:s.ya[i].yg<0;simp only [qs b2,qe,qb];refine ⟨_,rfl, .inr ⟨rfl,fun h=>?_⟩⟩;have:=(h.node i _ hn).sym;omega
    ·simp only [qp b2,qf];by_cases b3:s.ya[i].yf<1;simp only [qs b3,qe,qb];refine ⟨_,rfl, .inr ⟨rfl,fun h=>?_⟩⟩;have:=(h.node i _ hn).size;omega
     ·simp only [qp b3,qf];by_cases b4:24<s.ya[i].yf;simp only [qs b4,qe,qb];refine ⟨_,rfl, .inr ⟨rfl,fun h=>?_⟩⟩;have:=(h.node i _ hn).size;omega
      ·simp only [qp b4,qf,qb];by_cases b1:(32768:Int)<(optN (s.ya.take (i+1)):Int);simp only [qs b1,qe];refine ⟨_,rfl, .inr ⟨rfl,fun h=>?_⟩⟩;have j:=h.opts;have q:=kiu s.ya (i+1);omega
       ·simp only [qp b1,qf];refine kbp (Ev.mono (kaa2 g _ rfl hn (fun k m hk hm=>?_) c3) ?_)
        ·by_cases e:k=i;subst e;rw [hn] at hm;cases hm;omega
         ·exact (c4 k m (by omega) hm).size
        ·rintro r (⟨m',rfl,j,q,v⟩ | ⟨rfl,j⟩)
         ·refine ⟨_,rfl,(_,m'),rfl,rfl,by omega,j,fun k m hk hm=>?_⟩;by_cases e:k=i;subst e;rw [hn] at hm;cases hm;exact ⟨by omega,by omega,q,v⟩
          ·exact c4 k m (by omega) hm
         ·exact ⟨_,rfl, .inr ⟨rfl,j⟩⟩
   refine ⟨_,by simp only [khj,kal,qf],_,rfl, .inl ⟨rfl,h1,d,fun i n hn=>c4 i n (ka8 hn) hn,by rw [qae] at c2;exact c2,conP_iff.2 fun i k n m o p hn hm ho hp hr=>?_⟩⟩;obtain ⟨a,ha⟩:=qal.1 ho;obtain ⟨b,l⟩:=qal.1 hp;have g1:=c3.all i o ⟨n,a,hn,ha, .inl (ka8 hn)⟩;have g2:=c3.all k p ⟨m,b,hm,l, .inl (ka8 hm)⟩;rw [hr,g2] at g1;exact (shp_sgn.1 (qag g1)).symm
   ·rintro r (⟨rfl,h⟩ | ⟨rfl,h⟩);exact ⟨true,rfl,⟨fun _=>h,fun _=>rfl⟩⟩
    ·exact ⟨false,rfl,⟨fun h=>absurd h qa0,fun w=>absurd w h⟩⟩
 ·have e1:decide ((4096:Int)<(s.ya.length:Int))=true:=qs (by omega);simp only [e1,qe,qb];exact ⟨false,rfl,⟨fun h=>absurd h qa0,fun h=>absurd h.nodes h1⟩⟩
theorem SpW.wide {s:Spa} (h:SpW s):kl9 s:=⟨by have:=h.nodes;omega,by have:=h.roots;omega,fun n hn=>by have:=h.opts n hn;omega,fun n hn o ho=>by have:=h.args n hn o ho;omega⟩
section
variable {l:La} {s:Spa} {i:Nat} {n:Nod} {o:Opn}
theorem kzp (hf:kbh s) (hn:s.ya[i]?=some n) (ho:o∈n.yc):o.yb.length<=24:=by
 have h1:=(hf.node i n hn).opt o ho;have b:=(hf.node i n hn).size;have key:∀ l:List Int,(∀ a∈l,1<=szAt s.ya a)->(l.length:Int)<=(l.map (szAt s.ya)).sum:=fun l=>by
  induction l with
  | nil=>intro _;simp
  | cons x l ih=>
   intro h;have h1:=h x (qq ..);have b:=ih fun y hy=>h y (qh _ hy);simp only [qao,List.sum_cons,qbq];omega
 have c:=key o.yb fun a ha=>by obtain ⟨a0,a1⟩:=h1.args a ha;have hi:=ka8 hn;obtain ⟨m,_,e2,e3,_⟩:=kjy s.ya a0;have:=(hf.node _ m e2).size;omega
 have:=h1.size;omega
theorem kaa3 (hf:kbh s) (hn:s.ya[i]?=some n) (ho:o∈n.yc):∀ a∈o.yb,0<=a/\a<(s.ya.length:Int):=fun a ha=>by have h1:=((hf.node i n hn).opt o ho).args a ha;have:=ka8 hn;omega
theorem k35 (a:SpW s):∃ b,kfj s=some b:=by
 unfold kfj;have key:∃ r,kac (kch s) fuel (0,0,0)=some r:=by
  have:Ev (kac (kch s) fuel (0,0,0)) fun _=>True:=by
   refine ka4 (xs:=s.ya) (step:=kch s) (Q:=fun _=>True) (fun (i:Nat) (t:Int×Int)=>(t.1,t.2,(i:Int))) (fun _ _=>True) (t0:=(0,0)) (by have:=a.nodes;omega) trivial (fun i t hi _=>?_) (fun t _=>?_)
   ·have hn:=qa hi;have c:=a.opts _ (qo hi);have d:=a.nodes;simp only [kch,kan hi,qe,kag,hn,qb,kak hi (show s.ya.length<=9223372036854775807 by omega)];refine kbp (Ev.mono (ka4 (xs:=s.ya[i].yc) (Q:=fun _=>True) (fun (k:Nat) (m:Int)=>(m,(k:Int))) (fun _ _=>True) (t0:=t.2) (by omega) trivial (fun k m hk _=>?_) (fun m _=>?_)) fun r _=>⟨_,rfl,(_,_),rfl,trivial⟩)
    ·simp only [kfr,kan hk,qe,kag,hn,qa hk,qb,kak hk (show s.ya[i].yc.length<=9223372036854775807 by omega)];cases decide (w64 (t.1+(s.ya[i].yc.length:Int))<=120) with
     | false=>exact ⟨_,rfl,trivial⟩
     | true=>
      simp only [qe,qb];cases decide (m<=500) with
      | false=>exact ⟨_,rfl,trivial⟩
      | true=>exact ⟨_,rfl,_,rfl,trivial⟩
    ·exact ⟨.inr m,by simp only [kfr,kag,hn,qb,kal,qf],m,rfl,trivial⟩
   ·exact ⟨.inr (t.1,t.2),by simp only [kch,kal,qf],_,rfl,trivial⟩
  obtain ⟨r,hr,_⟩:=this;exact ⟨r,hr⟩
 obtain ⟨r,hr⟩:=key;cases decide ((40:Int)<(s.ya.length:Int)) with
 | true=>exact ⟨_,rfl⟩
 | false=>
  simp only [qf,qb];cases decide ((60:Int)<(s.ye.length:Int)) with
  | true=>exact ⟨_,rfl⟩
  | false=>
   simp only [qf,hr,qb];cases decide (r.1<=120) <;> exact ⟨_,rfl⟩
end
theorem ks2:∀ (n:Nat) (t:Tm) (m:Nat),m<=10000->m<n->kd8 n t (m:Int)=some (decide (t.size<=m),kdd m t.size)
 | 0,t,m,_,h=>by omega
 | n+1,t,m,hm,hn=>by
  show kgf (kd8 n) t (m:Int)=_;obtain ⟨r0,l⟩:=t;have f:(Tm.mk r0 l).size=Tm.sizeL l+1:=rfl;unfold kgf;rw [f];cases m with
  | zero=>rfl
  | succ B=>
   have e1:w64 (((B+1:Nat):Int) - 1)=(B:Int):=(by rw [kdf];omega);rw [e1,qp (show ¬ (B:Int)<0 by omega),qf];have key:Ev (kac (ka1 l (kd8 n)) fuel (0,(B:Int))) fun r=>(r = .inl ((B:Int) - Tm.sizeL l)/\Tm.sizeL l<=B)\/(∃ k:Nat,r = .inr ((k:Int),-1))/\B<Tm.sizeL l:=by
    refine kq7 (min l.length B) (fun i s=>s=((i:Int),(B:Int) - Tm.sizeL (l.take i))/\Tm.sizeL (l.take i)<=B) (by omega) ⟨by simp [Tm.sizeL],by simp [Tm.sizeL]⟩ (fun i s hi hs=>?_) (fun s hs=>?_)
    ·obtain ⟨rfl,e⟩:=hs;have a:i<l.length:=(by omega);have c:=kek l (i+1) (by omega);have hv:(B:Int) - Tm.sizeL (l.take i)=((B - Tm.sizeL (l.take i):Nat):Int):=(by omega);simp only [ka1,qs (show (i:Int)<(l.length:Int) by omega),qe,kag,qa a,qb,hv,ks2 n l[i] (B - Tm.sizeL (l.take i)) (by omega) (by omega),kfl i];rw [kgh a] at c;by_cases hp:l[i].size<=B - Tm.sizeL (l.take i)
     ·rw [qs hp];refine ⟨_,rfl,?_,?_⟩;rw [kgh a];unfold kdd;rw [qn hp];congr 1;omega
      ·rw [kgh a];omega
     ·rw [qp hp];refine ⟨_,rfl, .inr ⟨⟨i,?_⟩,by omega⟩⟩;unfold kdd;rw [qj hp]
    ·obtain ⟨rfl,e⟩:=hs;by_cases j:l.length<=B;have b:min l.length B=l.length:=(by omega);rw [b,qae] at e ⊢;exact ⟨_,by simp only [ka1,kal,qf],_,rfl, .inl ⟨rfl,e⟩⟩
     ·have b:min l.length B=B:=(by omega);rw [b] at e ⊢;have a:B<l.length:=(by omega);have c:=kek l B (by omega);have d:=kek l (B+1) (by omega);have o:=Tm.size_pos l[B];have hv:(B:Int) - Tm.sizeL (l.take B)=((0:Nat):Int):=(by omega);simp only [ka1,qs (show (B:Int)<(l.length:Int) by omega),qe,kag,qa a,qb,hv,ks2 n l[B] 0 (by omega) (by omega)];rw [qp (show ¬ l[B].size<=0 by omega)];rw [kgh a] at d;refine ⟨_,rfl,_,rfl, .inr ⟨⟨B,?_⟩,by omega⟩⟩;unfold kdd;rw [qj (by omega)]
   obtain ⟨r,h1,g⟩:=key;show Option.bind (kbf (kd8 n) l (B:Int)) _=_;unfold kbf kb6;rw [h1,qb];unfold kdd;rcases g with ⟨rfl,g⟩ | ⟨⟨k,rfl⟩,g⟩;rw [qs (show Tm.sizeL l+1<=B+1 by omega),qn (by omega)];simp only [qaq,qb];rw [qp (show ¬ (0:Int) <= -1 by omega)];congr 2;omega
   ·rw [qp (show ¬ Tm.sizeL l+1<=B+1 by omega),qj (by omega)];simp only [qa9,qb];rw [qs (show (0:Int)<=(k:Int) by omega)];rfl
theorem k9i (t:Tm):kjn t=some (decide (t.size<=24)):=by unfold kjn;have:=ks2 fuel t 24 (by omega) (kb8 (by omega));rw [show ((24:Nat):Int)=24 from rfl] at this;rw [this];rfl
section
variable {s:Spa}
theorem kze (hf:kbh s):∀ (t:Tm) (i:Nat) (n:Nod),s.ya[i]?=some n->Bt s.ya i t->(t.size:Int)=n.yf:=by
 refine Tm.ind fun r l ih=>?_;intro i n hn d;obtain ⟨n',o,ts,b,ho,e,hs⟩:=d.inv;rw [hn] at b;cases b;cases e;have f:=(hf.node i n hn).opt o ho;have key:∀ (vs:List Int) (ts:List Tm),Bts s.ya vs ts->(∀ t∈ts,∀ (i:Nat) (n:Nod),s.ya[i]?=some n->Bt s.ya i t->(t.size:Int)=n.yf)->(Tm.sizeL ts:Int)=(vs.map (szAt s.ya)).sum:=fun vs=>by
  induction vs with
  | nil=>intro ts h _;cases h;rfl
  | cons a vs ih2=>
   intro ts h hi;cases h with
   | @cons _ _ t ts h0 ht hs=>
    have h1:=ih2 _ hs fun t ht=>hi t (qh _ ht);have c:=kpj ht;have hm:=qa c;have g:=hi t (qq ..) _ _ hm ht;have j:szAt s.ya a=s.ya[a.toNat].yf:=(by unfold szAt;rw [hm];rfl);simp only [Tm.sizeL,qao,List.sum_cons];omega
 have h1:=key _ _ hs ih;have g:=f.size;show ((Tm.sizeL l+1:Nat):Int)=_;omega
open Classical in
def OwnP (s:Spa) (t:Tm) (l:List Int):Prop:=l.Pairwise (·<·)/\(∀ a,a∈l↔0<=a/\Bt s.ya a.toNat t)/\l.length<=s.ya.length
theorem kaax (a b:Int):kiw a b=some (decide (a<b)):=by simp only [kiw,ke6,bne_self_eq_false,qb,qf]
theorem k7x {n:Int} (h0:0<=n) (h1:n<18446744073709551616):wu64 n=n:=by unfold wu64 IntKind.wrap IntKind.signed IntKind.bits;simp only;rw [show (2:Int) ^ 64=18446744073709551616 from rfl,Int.emod_eq_of_lt h0 h1];simp
theorem mid_p {a b:Nat} (h:a+b<=1000000):w64 (Int.fdiv (wu64 (w64 ((a:Int)+(b:Int)))) (2 ^ (1:Nat)))=(((a+b) / 2:Nat):Int):=by
 have e1:w64 ((a:Int)+(b:Int))=((a+b:Nat):Int):=by rw [kdf];omega
 have e2:wu64 ((a+b:Nat):Int)=((a+b:Nat):Int):=k7x (by omega) (by omega);rw [e1,e2];have e3:Int.fdiv ((a+b:Nat):Int) (2 ^ (1:Nat))=(((a+b) / 2:Nat):Int):=by rw [Int.fdiv_eq_ediv_of_nonneg _ (by decide)];omega
 rw [e3,kdf]
theorem bs_ok (xs:List Int) (x:Int) (hp:xs.Pairwise (·<·)) (hl:xs.length<=10000):Ev (kcx xs x) fun p=>p.2=decide (x∈xs):=by
 unfold kcx;have a:∀ (i j:Nat) (hi:i<xs.length) (q:j<xs.length),i<j->xs[i]<xs[j]:=fun i j hi q e=>List.pairwise_iff_getElem.1 hp i j hi q e;refine kbp (Ev.mono (km0 (step:=kcb xs x) (Q:=fun r=>∃ i:Nat,r=(i:Int)/\i<=xs.length/\(∀ k (hk:k<xs.length),k<i->xs[k]<x)/\∀ k (hk:k<xs.length),i<=k->x<=xs[k]) (fun p=>∃ i j:Nat,p=((i:Int),(j:Int))/\i<=j/\j<=xs.length/\(∀ k (hk:k<xs.length),k<i->xs[k]<x)/\∀ k (hk:k<xs.length),j<=k->x<=xs[k]) (fun p=>(p.2 - p.1).toNat) (by simp;omega) ⟨0,xs.length,rfl,by omega,by omega,fun k hk h=>by omega,fun k hk h=>by omega⟩ ?_) ?_)
 ·rintro p ⟨i,j,rfl,h1,s,f,l⟩;by_cases e:i<j
  ·have hm:(i+j) / 2<xs.length:=(by omega);simp only [kcb,qs (show (i:Int)<(j:Int) by omega),qe,mid_p (show i+j<=1000000 by omega),kag,qa hm,qb,kaax];by_cases c:xs[(i+j) / 2]<x
   ·rw [qs c];simp only [qe,qb];rw [kfl ((i+j) / 2)];refine ⟨_,rfl,⟨(i+j) / 2+1,j,rfl,by omega,s,fun k hk g=>?_,l⟩,by simp;omega⟩;by_cases d:k=(i+j) / 2;subst d;exact c
    ·have:=a k ((i+j) / 2) hk hm (by omega);omega
   ·rw [qp c];simp only [qf,qb];refine ⟨_,rfl,⟨i,(i+j) / 2,rfl,by omega,by omega,f,fun k hk g=>?_⟩,by simp;omega⟩;by_cases d:k=(i+j) / 2;subst d;omega
    ·have:=a ((i+j) / 2) k hm hk (by omega);omega
  ·simp only [kcb,qp (show ¬ (i:Int)<(j:Int) by omega),qf];exact ⟨_,rfl,i,rfl,by omega,f,fun k hk g=>l k hk (by omega)⟩
 ·rintro r ⟨i,rfl,h1,f,l⟩;by_cases hi:i<xs.length
  ·simp only [qs (show (i:Int)<(xs.length:Int) by omega),qe,kag,qa hi,qb,kgx,bne_self_eq_false];by_cases m:xs[i]=x;rw [show (xs[i] == x)=true by simp [m]];exact ⟨_,rfl,(qs (by rw [<- m];exact qo hi)).symm⟩
   ·rw [show (xs[i] == x)=false by simp [m]];refine ⟨_,rfl,(qp fun o=>?_).symm⟩;obtain ⟨k,hk,rfl⟩:=qah.1 o;rcases Nat.lt_trichotomy k i with b | b | b;have:=f k hk b;omega;subst b;exact m rfl
    ·have:=a i k hi hk b;have:=l i hi (qy _);omega
  ·simp only [qp (show ¬ (i:Int)<(xs.length:Int) by omega),qf,qb];refine ⟨_,rfl,(qp fun o=>?_).symm⟩;obtain ⟨k,hk,rfl⟩:=qah.1 o;have:=f k hk (by omega);omega
open Classical in
theorem kaar (hf:kbh s) {i:Nat} {n:Nod} {o:Opn} (hn:s.ya[i]?=some n) (ho:o∈n.yc) (r:Int) (ts:List Tm) (x:ts.length<=1000) (acc:List (List Int)) (y:acc.length=ts.length) (b:∀ (j:Nat) (l:List Int),acc[j]?=some l->∃ u,ts[j]?=some u/\OwnP s u l):
  kib acc r o=some (decide (o.yd=r/\Bts s.ya o.yb ts)):=by
 have z:=hf.nodes;have A:=kzp hf hn ho;unfold kib;by_cases h1:o.yd=r
 ·rw [show (o.yd != r)=false by simp [h1],qf,qb];by_cases w:o.yb.length=acc.length
  ·rw [show ((o.yb.length:Int) != (acc.length:Int))=false by simp [w],qf];have d:∀ k,k<o.yb.length->kfm acc o (k:Int)=if decide (¬ ((o.yb[k]?).getD 0)∈(acc[k]?).getD [])=true then some (.inr (.inr false)) else some (.inl ((k+1:Nat):Int)):=fun k hk=>by
    have c:k<acc.length:=(by omega);obtain ⟨u,f,e⟩:=b k acc[k] (qa c);obtain ⟨p,hp,v⟩:=bs_ok acc[k] o.yb[k] e.1 (by have:=e.2.2;omega);simp only [kfm,kan hk,qe,kag,qa hk,qa c,qb,hp,v,qam,kak hk (show o.yb.length<=9223372036854775807 by omega)];by_cases hm:o.yb[k]∈acc[k];simp [hm]
    ·simp [hm]
   rcases kgm (kfm acc o) o.yb.length (fun k=>decide (¬ ((o.yb[k]?).getD 0)∈(acc[k]?).getD [])) (fun _ => .inr false) (.inl ()) d (by simp only [kfm,kal,qf]) with ⟨k,hk,g,_,hr⟩ | ⟨g,hr⟩;rw [hr,qb];rw [qay] at g;have c:k<acc.length:=(by omega);obtain ⟨u,f,e⟩:=b k acc[k] (qa c);rw [qa hk,qa c] at g;have:¬ (o.yd=r/\Bts s.ya o.yb ts):=fun h=>g ((e.2.1 _).2 (h.2.get k _ u (qa hk) f));rw [qp this];rfl
   ·rw [hr,qb];have:o.yd=r/\Bts s.ya o.yb ts:=(by refine ⟨h1,Bts.of (by omega) fun j a t ha ht=>?_⟩;have B:=ka8 ha;have m:j<acc.length:=(by omega);have q:=g j B;rw [qbf,Decidable.not_not,ha,qa m] at q;obtain ⟨u,f,e⟩:=b j acc[j] (qa m);rw [ht] at f;cases f;exact (e.2.1 a).1 q);rw [qs this];rfl
  ·rw [show ((o.yb.length:Int) != (acc.length:Int))=true by simp;omega,qe];rw [qp fun h=>w (by have:=h.2.len;omega)]
 ·rw [show (o.yd != r)=true by simp [h1],qe,qb,qe];rw [qp fun h=>h1 h.1]
open Classical in
theorem k7l (hf:kbh s) {i:Nat} {n:Nod} (hn:s.ya[i]?=some n) (t:Tm) (f:t.args.length<=1000) (acc:List (List Int)) (g:acc.length=t.args.length) (b:∀ (j:Nat) (l:List Int),acc[j]?=some l->∃ u,t.args[j]?=some u/\OwnP s u l):
  ka7 n.yc acc t=some (decide (Bt s.ya i t)):=by
 have m:n.yc.length<=32768:=qap (kmm hn) hf.opts;unfold ka7 kbr;have a:Bt s.ya i t↔∃ o∈n.yc,o.yd=t.rule/\Bts s.ya o.yb t.args:=by
  constructor;intro h;obtain ⟨n',o,ts,c,ho,p,hs⟩:=h.inv;rw [hn] at c;cases c;subst p;exact ⟨o,ho,rfl,hs⟩
  ·rintro ⟨o,ho,h1,q⟩;obtain ⟨r,l⟩:=t;have h1:o.yd=r:=h1;subst h1;exact .mk hn ho q
 rcases kgm (ka6 n.yc acc t) n.yc.length (fun k=>decide (∃ o,n.yc[k]?=some o/\o.yd=t.rule/\Bts s.ya o.yb t.args)) (fun k => .inr (k:Int)) (.inl ()) (fun k hk=>by
  have ho:=qa hk;simp only [ka6,kh4,kan hk,qe,kag,ho,qb,kak hk (show n.yc.length<=9223372036854775807 by omega),kaar hf hn (qo hk) t.rule t.args f acc g b];by_cases h:n.yc[k].yd=t.rule/\Bts s.ya n.yc[k].yb t.args;rw [qs h,qn (qs ⟨_,rfl,h⟩)];rfl
  ·rw [qp h,qj (by rw [qay];rintro ⟨o,e,v⟩;cases e;exact h v)];rfl) (by simp only [ka6,kal,qf]) with ⟨k,hk,d,_,hr⟩ | ⟨d,hr⟩
 rw [hr];rw [qay] at d;obtain ⟨o,ho,h⟩:=d;rw [qs (a.2 ⟨o,qk ho,h⟩)];simp only [qb,qa9];rw [qs (by omega)]
 ·rw [hr];have:¬ Bt s.ya i t:=fun h=>by obtain ⟨o,ho,h⟩:=a.1 h;obtain ⟨k,hk⟩:=qal.1 ho;have:=d k (ka8 hk);rw [qbf] at this;exact this ⟨o,hk,h⟩
  rw [qp this];rfl
open Classical in
theorem kvg (hf:kbh s):∀ (n:Nat) (t:Tm),t.size<=n->t.size<=1000->Ev (kgr n s t) (OwnP s t)
 | 0,t,h,_=>by have:=Tm.size_pos t;omega
 | n+1,t,hn,ht=>by
  show Ev (khx (kgr n) s t) _;have g:t.args.length<=1000/\∀ u∈t.args,u.size<t.size:=by obtain ⟨r,l⟩:=t;have h1:=kkg l;have f:(Tm.mk r l).size=Tm.sizeL l+1:=rfl;refine ⟨by show l.length<=1000;omega,fun u c=>?_⟩;obtain ⟨i,hi,rfl⟩:=qah.1 (show u∈l from c);have C:=kek l (i+1) (by omega);rw [kgh hi] at C;omega
  obtain ⟨q,d⟩:=g;have D:=hf.nodes;unfold khx;refine kbp (Ev.mono (ka4 (xs:=t.args) (step:=khd s t (kgr n)) (Q:=fun r=>(∃ acc:List (List Int),r = .inl acc/\acc.length=t.args.length/\∀ (j:Nat) (l:List Int),acc[j]?=some l->∃ u,t.args[j]?=some u/\OwnP s u l)\/(r = .inr []/\∃ u∈t.args,∀ i,¬ Bt s.ya i u))
   (fun (k:Nat) (acc:List (List Int))=>((k:Int),acc)) (fun k acc=>acc.length=k/\∀ (j:Nat) (l:List Int),acc[j]?=some l->∃ u,t.args[j]?=some u/\OwnP s u l) (t0:=[]) (by omega) ⟨rfl,fun j l h=>by simp at h⟩ (fun k acc hk ⟨h1,f⟩=>?_) (fun acc ⟨h1,f⟩=>?_)) ?_)
  ·have c:=qa hk;obtain ⟨l,hl,B⟩:=kvg hf n t.args[k] (by have:=d _ (qo hk);omega) (by have:=d _ (qo hk);omega);simp only [khd,kan hk,qe,kag,c,qb,hl,kak hk (show t.args.length<=9223372036854775807 by omega)];by_cases v:l=[];subst v;refine ⟨_,rfl, .inr ⟨rfl,_,qo hk,fun i e=>?_⟩⟩;have:=(B.2.1 (i:Int)).2 ⟨by omega,by rw [qbw];exact e⟩;cases this
   ·have:((l.length:Int) == 0)=false:=(by have:l.length≠0:=fun h=>v (qa6 h);simp;exact v);rw [this,qf,kb4 (by simp;omega),qb];refine ⟨_,rfl,_,rfl,by simp [h1],fun j l' b=>?_⟩;by_cases w:j<acc.length;rw [qac w] at b;exact f j l' b
    ·rw [qai (by omega)] at b;have m:j=k:=(by have:=(qd.1 b).1;simp at this;omega);subst m;simp [h1] at b;subst b;exact ⟨_,c,B⟩
  exact ⟨_,by simp only [khd,kal,qf],_,rfl, .inl ⟨acc,rfl,h1,f⟩⟩
  ·rintro r (⟨acc,rfl,h1,f⟩ | ⟨rfl,u,c,z⟩)
   ·simp only [qaq];refine kbp (Ev.mono (ka4 (xs:=s.ya) (step:=khe s t acc) (Q:=OwnP s t)
     (fun (i:Nat) (out:List Int)=>((i:Int),out)) (fun i out=>out.Pairwise (·<·)/\(∀ a,a∈out↔0<=a/\a<(i:Int)/\Bt s.ya a.toNat t)/\out.length<=i) (t0:=[]) (by omega) ⟨.nil,fun a=>by simp;omega,by simp⟩ (fun i out hi ⟨g1,g2,g3⟩=>?_) (fun out ⟨g1,g2,g3⟩=>?_)) fun l hl=>⟨l,rfl,hl⟩)
    ·have p:=qa hi;simp only [khe,kan hi,qe,kag,p,qb,k7l hf p t q acc h1 f,kak hi (show s.ya.length<=9223372036854775807 by omega)];by_cases e:Bt s.ya i t
     ·rw [qs e,qe,kb4 (by simp;omega),qb,qb];refine ⟨_,rfl,_,rfl,?_,fun a=>?_,by simp;omega⟩;rw [List.pairwise_append];refine ⟨g1,List.pairwise_singleton _ _,fun x E y hy=>?_⟩;rw [q9] at hy;have:=(g2 x).1 E;omega
      ·rw [qab,q9,g2];constructor
       ·rintro (⟨q1,q2,q3⟩ | rfl);exact ⟨q1,by omega,q3⟩
        ·exact ⟨by omega,by omega,by rw [qbw];exact e⟩
       ·rintro ⟨q1,q2,q3⟩;by_cases ha:a=(i:Int);exact .inr ha
        ·exact .inl ⟨q1,by omega,q3⟩
     ·rw [qp e,qf,qb];refine ⟨_,rfl,_,rfl,g1,fun a=>?_,by omega⟩;rw [g2];constructor;rintro ⟨q1,q2,q3⟩;exact ⟨q1,by omega,q3⟩
      ·rintro ⟨q1,q2,q3⟩;refine ⟨q1,?_,q3⟩;by_cases ha:a=(i:Int);subst ha;rw [qbw] at q3;exact absurd q3 e
       ·omega
    ·refine ⟨_,by simp only [khe,kal,qf],_,rfl,g1,fun a=>?_,g3⟩;rw [g2];constructor;rintro ⟨q1,q2,q3⟩;exact ⟨q1,q3⟩
     ·rintro ⟨q1,q3⟩;have:=kpj q3;exact ⟨q1,by omega,q3⟩
   ·refine ⟨_,rfl, .nil,fun a=>⟨fun h=>(by cases h),fun ⟨_,e⟩=>?_⟩,qar _⟩;exfalso;obtain ⟨n',o,ts,_,_,F,hs⟩:=e.inv;subst F;have c:u∈ts:=c;obtain ⟨j,b⟩:=qal.1 c;have A:j<o.yb.length:=(by rw [hs.len];exact ka8 b);exact z _ (hs.get j _ u (qa A) b).2
theorem k79 (xs:List Int) (x:Int) (hl:xs.length<=9223372036854775807):kd3 xs x=some (decide (x∈xs)):=by
 unfold kd3 kgi;rcases kgm (kd2 xs x) xs.length (fun k=>decide (xs[k]?=some x)) (fun k => .inr (k:Int)) (.inl ()) (fun k hk=>by
  simp only [kd2,kan hk,qe,kag,qa hk,qb,kak hk hl];by_cases h:xs[k]=x;rw [show (x == xs[k])=true by simp [h],qn (by simp [h])];rfl
  ·rw [show (x == xs[k])=false by rw [qbu];exact fun e=>h e.symm,qj (by simp [h])];rfl) (by simp only [kd2,kal,qf]) with ⟨k,hk,a,_,hr⟩ | ⟨a,hr⟩
 rw [hr];rw [qay] at a;rw [qs (qk a)];simp only [qb,qa9];rw [qs (by omega)]
 ·rw [hr];rw [qp fun b=>?_];rfl
  ·obtain ⟨k,hk⟩:=qal.1 b;have:=a k (ka8 hk);rw [qbf] at this;exact this hk
open Classical in
theorem kte (j:kl9 s) (t:Tm) (ht:t.size<=60):kgp s t=some (decide (kbh s/\InS s t)):=by
 unfold kgp;obtain ⟨b,c,d⟩:=k2s j;rw [c,qb];cases b with
 | false=>
  have:¬ kbh s:=fun h=>absurd (d.2 h) qa0;rw [qp fun h=>this h.1];rfl
 | true=>
  have hf:=d.1 rfl;simp only [qbd,qf,k9i,qb];by_cases hs:t.size<=24
  ·rw [qs hs];simp only [qbd,qf];obtain ⟨l,hl,i⟩:=kvg hf fuel t (by have:t.size<fuel:=kb8 (by omega);omega) (by omega);have m:=hf.nodes;have n:=j.roots;have o:=i.2.2;rw [hl,qb];rcases kgm (kgd s l) l.length (fun k=>decide ((l[k]?).getD 0∈s.ye)) (fun k => .inr true) (.inl ()) (fun k hk=>by
    simp only [kgd,kan hk,qe,kag,qa hk,qb,kak hk (show l.length<=9223372036854775807 by omega),qam];rw [k79 _ _ (by omega),qb];by_cases h:l[k]∈s.ye;simp [h]
    ·simp [h]) (by simp only [kgd,kal,qf]) with ⟨k,hk,c,_,hr⟩ | ⟨c,hr⟩
   rw [hr];rw [qa hk,qay] at c;have h1:=(i.2.1 _).1 (qo hk);rw [qs ⟨hf,_,c,h1.1,h1.2⟩];rfl
   ·rw [hr];rw [qp];rfl
    ·rintro ⟨_,r,e,f,a⟩;obtain ⟨k,hk⟩:=qal.1 ((i.2.1 r).2 ⟨f,a⟩);have:=c k (ka8 hk);rw [hk,qbf] at this;exact this e
  ·rw [qp hs];simp only [Bool.not_false,qe];rw [qp];rintro ⟨_,r,e,f,a⟩;have g:=kpj a;have h1:=kze hf t _ _ (qa g) a;have p:=(hf.node _ _ (qa g)).size;omega
open Classical in
open Classical in
theorem kum {o:Opn} {l:List Bool} (h:∀ a∈o.yb,0<=a/\a<(l.length:Int)) (b:o.yb.length<=9223372036854775807):kgn l o=some (kat (fg l) o):=kt0 h b
theorem kabg {os:List Opn} {l:List Bool} (h:∀ o∈os,(∀ a∈o.yb,0<=a/\a<(l.length:Int))/\o.yb.length<=9223372036854775807) (c:os.length<=9223372036854775807):kba os l=some (os.any (kat (fg l))):=by
 unfold kba kbt;rcases kgm (kbb os l) os.length (fun k=>(os[k]?).any (kat (fg l))) (fun k => .inr (k:Int)) (.inl ()) (fun k hk=>by obtain ⟨h1,d⟩:=h _ (qo hk);simp only [kbb,kh6,kan hk,qe,kag,qa hk,qb,kak hk c,kum h1 d,Option.any_some];cases kat (fg l) os[k] <;> rfl) (by simp only [kbb,kal,qf]) with ⟨k,hk,b,_,hr⟩ | ⟨b,hr⟩;rw [hr];rw [qa hk,Option.any_some] at b;rw [show os.any (kat (fg l))=true from List.any_eq_true.2 ⟨_,qo hk,b⟩];simp only [qb,qa9];rw [qs (by omega)]
 ·rw [hr];have:os.any (kat (fg l))=false:=by rw [List.any_eq_false];intro o ho;obtain ⟨k,hk⟩:=qal.1 ho;have:=b k (ka8 hk);rw [hk,Option.any_some] at this;simp [this]
  rw [this];rfl
theorem k57 (hf:kbh s):Ev (kis s) fun l=>l.length=s.ya.length/\∀ i,i<s.ya.length->klu s l i:=by
 have p:=hf.nodes;unfold kis;rw [klp _ _ _,qb];refine kbp (Ev.mono (ka4 (xs:=s.ya) (step:=khh s) (Q:=fun l=>l.length=s.ya.length/\∀ i,i<s.ya.length->klu s l i)
  (fun (i:Nat) (l:List Bool)=>((i:Int),l)) (fun i l=>l.length=s.ya.length/\∀ k,k<i->klu s l k) (t0:=List.replicate s.ya.length false) (by omega) ⟨by simp,fun k h=>by omega⟩ (fun i l hi ⟨h1,j⟩=>?_) (fun l ⟨h1,j⟩=>?_)) fun l hl=>⟨l,rfl,hl⟩)
 ·have hn:=qa hi;have f:i<l.length:=by omega
  have q:s.ya[i].yc.length<=32768:=qap (kmm hn) hf.opts;have e:∀ o∈s.ya[i].yc,(∀ a∈o.yb,0<=a/\a<(l.length:Int))/\o.yb.length<=9223372036854775807:=fun o ho=>by have r:=kaa3 hf hn ho;have t:=kzp hf hn ho;exact ⟨fun a ha=>by have:=r a ha;omega,by omega⟩
  simp only [khh,kan hi,qe,kag,hn,qb,kabg e (by omega),qa f,kak hi (show s.ya.length<=9223372036854775807 by omega),qbw];refine ⟨_,rfl,_,rfl,by simp [h1],fun k hk n c=>?_⟩;have d:=khw f (s.ya[i].yc.any (kat (fg l)));have b:∀ o∈n.yc,kat (fg (l.set i (s.ya[i].yc.any (kat (fg l))))) o=kat (fg l) o:=fun o ho=>koi fun a ha=>by have:=((hf.node k n c).opt o ho).args a ha;rw [d,qj (by omega)]
  have m:(∃ o∈n.yc,kat (fg (l.set i (s.ya[i].yc.any (kat (fg l))))) o=true)↔∃ o∈n.yc,kat (fg l) o=true:=
   ⟨fun ⟨o,ho,h⟩=>⟨o,ho,by rw [<- b o ho];exact h⟩,fun ⟨o,ho,h⟩=>⟨o,ho,by rw [b o ho];exact h⟩⟩
  rw [d,m];by_cases g:k=i;subst g;rw [hn] at c;cases c;rw [qn rfl,List.any_eq_true]
  ·rw [qj g];exact j k (by omega) n c
 ·exact ⟨_,by simp only [khh,kal,qf],_,rfl,h1,j⟩
end
inductive Nd (s:Spa) (f:Nat->Bool):Nat->Prop where
 | root {r:Int} (hr:r∈s.ye) (hf:f r.toNat=true):Nd s f r.toNat
 | arg {i:Nat} {n:Nod} {o:Opn} {a:Int} (hi:Nd s f i) (hn:s.ya[i]?=some n) (ho:o∈n.yc) (hfo:kat f o=true) (ha:a∈o.yb):Nd s f a.toNat
structure k7c (s:Spa) (l q:List Bool):Prop where
 len:l.length=s.ya.length
 full:∀ i,i<s.ya.length->klu s l i
 qlen:q.length=s.ya.length
 need:∀ k,fg q k=true↔Nd s (fg l) k
section
variable {s:Spa} (hf:kbh s)
include hf
theorem k4u {l:List Bool} (hl:l.length=s.ya.length):Ev (kac (kg8 s l) fuel (0,List.replicate s.ya.length false)) fun p=>p.length=s.ya.length/\(∀ r∈s.ye,fg p r.toNat=fg l r.toNat)/\∀ k,fg p k=true->Nd s (fg l) k:=by
 have f:=kk5 hf.roots;have g:=hf.nodes;refine ka4 (xs:=s.ye) (step:=kg8 s l) (fun (j:Nat) (p:List Bool)=>((j:Int),p)) (fun j p=>p.length=s.ya.length/\(∀ r∈s.ye.take j,fg p r.toNat=fg l r.toNat)/\∀ k,fg p k=true->Nd s (fg l) k) (by omega) ⟨List.length_replicate,by simp,fun k h=>by rw [k2b] at h;cases h⟩ (fun j p b ⟨h1,d,e⟩=>?_) (fun p ⟨h1,d,e⟩=>?_)
 ·have hr:=qa b;have c:=hf.roots.1 _ (qo b);simp only [kg8,kan b,qe,kag,hr,qb,kkq l c.1,kkq p c.1,kak b (show s.ye.length<=9223372036854775807 by omega)];refine ⟨_,rfl,_,rfl,by rw [qbs];exact h1,fun r a=>?_,fun k hk=>?_⟩
  ·rw [khw (by omega)];split;rename_i h;rw [h]
   ·rename_i h;rw [qx b,qab,q9] at a;rcases a with a | rfl;exact d r a
    ·exact absurd rfl h
  ·rw [khw (by omega)] at hk;split at hk;rename_i h;subst h;exact .root (qo b) hk
   ·exact e k hk
 ·refine ⟨_,by simp only [kg8,kal,qf],_,rfl,h1,fun r hr=>d r ?_,e⟩;rw [qae];exact hr
theorem k96 {S:Nat->Prop} {l p:List Bool} {i:Nat} {n:Nod} {o:Opn} (hl:l.length=s.ya.length) (hp:p.length=s.ya.length) (hn:s.ya[i]?=some n) (ho:o∈n.yc) (x:Int×List Bool) (A:x.1=(i:Int)) (hS:∀ k,fg p k=true->S k) (hA:fg p i=true->kat (fg l) o=true->∀ a∈o.yb,S a.toNat):
  Ev (kac (kga l x o) fuel (0,p)) fun q=>q.length=s.ya.length/\(∀ k,fg p k=true->fg q k=true)/\(∀ k,i<=k->fg q k=fg p k)/\(fg p i=true->kat (fg l) o=true->∀ a∈o.yb,fg q a.toNat=true)/\∀ k,fg q k=true->S k:=by
 have B:=kds hf hn ho;have C:=hf.nodes;have hi:=ka8 hn;have f:kgn l o=some (kat (fg l) o):=kum (fun a ha=>by have:=kif hf hn ho ha;omega) (by omega);refine Ev.mono (ka4 (xs:=o.yb) (step:=kga l x o) (Q:=fun q=>q.length=s.ya.length/\(∀ k,fg p k=true->fg q k=true)/\(∀ k,i<=k->fg q k=fg p k)/\(fg p i=true->kat (fg l) o=true->∀ a∈o.yb,fg q a.toNat=true)/\∀ k,fg q k=true->S k) (fun (j:Nat) (q:List Bool)=>((j:Int),q))
  (fun j q=>q.length=s.ya.length/\(∀ k,fg p k=true->fg q k=true)/\(∀ k,i<=k->fg q k=fg p k)/\(fg p i=true->kat (fg l) o=true->∀ a∈o.yb.take j,fg q a.toNat=true)/\∀ k,fg q k=true->S k) (t0:=p) (by omega) ⟨hp,fun k h=>h,fun k _=>rfl,by simp,hS⟩ (fun j q e ⟨h1,t,g,u,v⟩=>?_) (fun q ⟨h1,t,g,u,v⟩=>?_)) (fun q h=>h)
 ·have ha:=qa e;have w:=kif hf hn ho (qo e);have m:=kkq q w.1;have D:idx q (i:Int)=some (fg p i):=by rw [kag,kom (by omega),g i (qy _)]
  have fin:∀ b:Bool,(fg q o.yb[j].toNat=true->b=true)->(fg p i=true->kat (fg l) o=true->b=true)->(b=true->fg q o.yb[j].toNat=true\/(fg p i=true/\kat (fg l) o=true))->∃ t',(((j+1:Nat):Int),List.set q (Int.toNat o.yb[j]) b)=(((j+1:Nat):Int),t') /\
    t'.length=s.ya.length/\(∀ k,fg p k=true->fg t' k=true)/\(∀ k,i<=k->fg t' k=fg p k)/\(fg p i=true->kat (fg l) o=true->∀ a∈o.yb.take (j+1),fg t' a.toNat=true)/\∀ k,fg t' k=true->S k:=fun b b1 b2 b3=>by
   refine ⟨_,rfl,by rw [qbs];exact h1,fun k hk=>?_,fun k hk=>?_,fun r hfo a c=>?_,fun k hk=>?_⟩
   ·rw [khw (by omega)];split;rename_i h;subst h;exact b1 (t _ hk)
    ·exact t k hk
   rw [khw (by omega),qj (by omega)];exact g k hk
   ·rw [khw (by omega)];split;exact b2 r hfo
    ·rename_i h;rw [qx e,qab,q9] at c;rcases c with c | rfl;exact u r hfo a c
     ·exact absurd rfl h
   ·rw [khw (by omega)] at hk;split at hk
    ·rename_i h;subst h;rcases b3 hk with h | ⟨h,y⟩;exact v _ h
     ·exact hA h y _ (qo e)
    ·exact v k hk
  have z:q[i]?=some (fg p i):=by rw [kom (by omega),g i (qy _)]
  have d:kga l x o ((j:Int),q)=some (.inl (((j+1:Nat):Int),List.set q (Int.toNat o.yb[j]) (fg q o.yb[j].toNat || (fg p i && kat (fg l) o)))):=by
   simp only [kga,kan e,qe,kag,ha,qb,m,kak e (show o.yb.length<=9223372036854775807 by omega),A,z,f];cases fg q o.yb[j].toNat with
   | true=>rfl
   | false=>cases fg p i <;> rfl
  refine ⟨_,d,fin _ (fun h=>by rw [h];rfl) (fun h y=>by rw [h,y];simp) fun h=>?_⟩;cases E:fg q o.yb[j].toNat with
  | true=>exact .inl rfl
  | false=>
   rw [E,Bool.false_or,qv] at h;exact .inr h
 ·refine ⟨_,by simp only [kga,kal,qf,qb],_,rfl,h1,t,g,?_,v⟩;rw [qae] at u;exact u
theorem k9a {S:Nat->Prop} {l p:List Bool} {i:Nat} {n:Nod} (hl:l.length=s.ya.length) (hp:p.length=s.ya.length) (hn:s.ya[i]?=some n) (x:Int×List Bool) (r:x.1=(i:Int)) (hS:∀ k,fg p k=true->S k) (hA:fg p i=true->∀ o∈n.yc,kat (fg l) o=true->∀ a∈o.yb,S a.toNat):
  Ev (kac (kg9 l x n) fuel (0,p)) fun q=>q.length=s.ya.length/\(∀ k,fg p k=true->fg q k=true)/\(∀ k,i<=k->fg q k=fg p k)/\(fg p i=true->∀ o∈n.yc,kat (fg l) o=true->∀ a∈o.yb,fg q a.toNat=true)/\∀ k,fg q k=true->S k:=by
 have t:=olen hf hn;have hi:=ka8 hn;refine ka4 (xs:=n.yc) (step:=kg9 l x n) (fun (j:Nat) (q:List Bool)=>((j:Int),q))
  (fun j q=>q.length=s.ya.length/\(∀ k,fg p k=true->fg q k=true)/\(∀ k,i<=k->fg q k=fg p k)/\(fg p i=true->∀ o∈n.yc.take j,kat (fg l) o=true->∀ a∈o.yb,fg q a.toNat=true)/\∀ k,fg q k=true->S k) (by omega) ⟨hp,fun k h=>h,fun k _=>rfl,by simp,hS⟩ (fun j q c ⟨h1,g,d,f,m⟩=>?_) (fun q ⟨h1,g,d,f,m⟩=>?_)
 ·have ho:=qa c;have hm:=qo c;simp only [kg9,kag,qb,kan c,qe,ho,kak c (show n.yc.length<=9223372036854775807 by omega)];refine kbp (Ev.mono (k96 (S:=S) hf hl h1 hn hm x r m fun u hfo a ha=>hA (by rw [<- d i (qy _)];exact u) _ hm hfo a ha) fun q' ⟨g1,g2,g3,g4,g5⟩=>?_);refine ⟨_,rfl,_,rfl,g1,fun k hk=>g2 k (g k hk),fun k hk=>by rw [g3 k hk,d k hk],fun e o b hfo a ha=>?_,g5⟩;rw [qx c,qab,q9] at b;rcases b with b | rfl;exact g2 _ (f e o b hfo a ha)
  ·exact g4 (by rw [d i (qy _)];exact e) hfo a ha
 ·refine ⟨_,by simp only [kg9,kal,qf],_,rfl,h1,g,d,?_,m⟩;rw [qae] at f;exact f
theorem kaa6 {l p:List Bool} (hl:l.length=s.ya.length) (hp:p.length=s.ya.length) (hS:∀ k,fg p k=true->Nd s (fg l) k):Ev (kac (kig s l) fuel (w64 ((s.ya.length:Int) - 1),p)) fun q=>
  q.length=s.ya.length/\(∀ k,fg p k=true->fg q k=true)/\(∀ (i:Nat) (n:Nod),s.ya[i]?=some n->fg q i=true->∀ o∈n.yc,kat (fg l) o=true->∀ a∈o.yb,fg q a.toNat=true)/\∀ k,fg q k=true->Nd s (fg l) k:=by
 have r:=hf.nodes;have e0:w64 ((s.ya.length:Int) - 1)=(s.ya.length:Int) - 1:=kdf;rw [e0];refine km0 (fun (x:Int×List Bool) => -1<=x.1/\x.1<(s.ya.length:Int)/\x.2.length=s.ya.length/\(∀ k,fg p k=true->fg x.2 k=true)/\(∀ (i:Nat) (n:Nod),x.1<(i:Int)->s.ya[i]?=some n->fg x.2 i=true->∀ o∈n.yc,kat (fg l) o=true->∀ a∈o.yb,fg x.2 a.toNat=true)/\∀ k,fg x.2 k=true->Nd s (fg l) k)
  (fun x=>(x.1+1).toNat) (by show ((s.ya.length:Int) - 1+1).toNat<_;omega) ⟨by show (-1:Int)<=(s.ya.length:Int) - 1;omega,by show (s.ya.length:Int) - 1<_;omega,hp,fun k h=>h,fun i n h hn=>by have:=ka8 hn;have v:(s.ya.length:Int) - 1<(i:Int):=h;omega,hS⟩ ?_
 rintro ⟨z,q⟩ ⟨h0,h1,e,f,g,d⟩;simp only at h0 h1 e f g d;by_cases t:0<=z
 ·obtain ⟨i,rfl⟩:∃ i:Nat,z=(i:Int):=⟨z.toNat,by omega⟩;have hi:i<s.ya.length:=by omega
  have hn:=qa hi;have e1:w64 ((i:Int) - 1)=(i:Int) - 1:=kdf;simp only [kig,qs t,qe,e1,kag,hn,qb];refine kbp (Ev.mono (k9a (S:=Nd s (fg l)) hf hl e hn _ rfl d fun j o ho hfo a ha => .arg (d _ j) hn ho hfo ha) fun q' ⟨g1,g2,g3,g4,g5⟩=>?_);refine ⟨_,rfl,⟨by show (-1:Int)<=(i:Int) - 1;omega,by show (i:Int) - 1<_;omega,g1,fun k hk=>g2 k (f k hk),fun k n hk b j o ho hfo a ha=>?_,g5⟩,by show ((i:Int) - 1+1).toNat<((i:Int)+1).toNat;omega⟩;have u:(i:Int) - 1<(k:Int):=hk;have c:fg q k=true:=by rw [<- g3 k (by omega)];exact j
  by_cases m:k=i;subst m;rw [hn] at b;cases b;exact g4 c o ho hfo a ha
  ·exact g2 _ (g k n (by omega) b c o ho hfo a ha)
 ·obtain rfl:z = -1:=by omega
  exact ⟨.inr q,by simp only [kig];rfl,e,f,fun i n hn=>g i n (by omega) hn,d⟩
def NumQ (s:Spa) (p:Nat->Bool) (i:Nat) (num:List Int):Prop:=num.length=s.ya.length/\∀ k,k<i->p k=true->num[k]?=some (cntP p k:Int)
omit hf in
theorem NumQ.idx {p:Nat->Bool} {i:Nat} {num:List Int} (h:NumQ s p i num) {a:Int} (h0:0<=a) (h1:a<(i:Int)) (hp:p a.toNat=true):Go.Proofs.YtnlhjbnpjefjgaaGreatDoor.idx num a=some (numI p a):=by unfold Go.Proofs.YtnlhjbnpjefjgaaGreatDoor.idx;rw [qn h0,h.2 a.toNat (by omega) hp];rfl
omit hf in
theorem k8a (f:Int->Int) {num args:List Int} (hl:args.length<=1000) (h:∀ a∈args,idx num a=some (f a)):kfx num args=some (args.map f):=by
 unfold kfx;have k:=kmr (kdh num args) args.length (fun j=>((j:Int),(args.take j).map f)) (args.map f) (fun j b=>by
  simp only [kdh,kan b,qe,kag,qa b,qb,h _ (qo b),kak b (show args.length<=9223372036854775807 by omega)];rw [kb4 (by simp;omega),qb,map_take _ b]) (by
  simp only [kdh,kal,qf,qae])
 have k':kac (kdh num args) fuel (0,([]:List Int))=some (args.map f):=by simpa using k
 rw [k',qb]
theorem popts {l:List Bool} {p:Nat->Bool} (hl:l.length=s.ya.length) {i:Nat} {n:Nod} (hn:s.ya[i]?=some n) (c:∀ o∈n.yc,kat (fg l) o=true->∀ a∈o.yb,p a.toNat=true) (x:Int×List Int×List Nod) (num:List Int) (k:List.set x.2.1 (Int.toNat x.1) (List.length (x.2.2):Int)=num) (d:NumQ s p (i+1) num):
  Ev (kac (khb l x n) fuel (0,([]:List Opn))) fun v=>v=(n.yc.filter (kat (fg l))).map (khr p):=by
 have m:=olen hf hn;have hi:=ka8 hn;refine ka4 (xs:=n.yc) (step:=khb l x n) (fun (j:Nat) (q:List Opn)=>((j:Int),q)) (fun j q=>q=((n.yc.take j).filter (kat (fg l))).map (khr p)) (by omega) (by simp) (fun j q b h1=>?_) (fun q h1=>?_)
 ·subst h1;have ho:=qa b;have hm:=qo b;have e:kgn l n.yc[j]=some (kat (fg l) n.yc[j]):=kum (fun a ha=>by have:=kif hf hn hm ha;omega) (by have:=kds hf hn hm;omega);simp only [khb,kag,qb,kan b,qe,ho,e,kak b (show n.yc.length<=9223372036854775807 by omega),k];cases g:kat (fg l) n.yc[j] with
  | false=>
   simp only [qf,qb];refine ⟨_,rfl,_,rfl,?_⟩;rw [kh1 _ b,qj (by rw [g];simp),qbh]
  | true=>
   simp only [qe];have h:(((n.yc.take j).filter (kat (fg l))).map (khr p)).length<=j:=(by rw [qaa];refine qap (List.length_filter_le _ _) ?_;rw [qav];omega);rw [k8a (numI p) (by have:=kds hf hn hm;omega) (fun a ha=>by have:=kif hf hn hm ha;exact d.idx this.1 (by omega) (c _ hm g a ha)),qb,kb4 (by rw [qak];omega)];simp only [qb];refine ⟨_,rfl,_,rfl,?_⟩;rw [kh1 _ b,qn g,qas];rfl
 ·subst h1;rw [qae];exact ⟨_,by simp only [khb,kal,qf],_,rfl,rfl⟩
theorem kabv {l q:List Bool} (hl:l.length=s.ya.length) (r:q.length=s.ya.length) (e:∀ (i:Nat) (n:Nod),s.ya[i]?=some n->fg q i=true->∀ o∈n.yc,kat (fg l) o=true->∀ a∈o.yb,fg q a.toNat=true):
  Ev (kac (kg7 s l q) fuel (0,List.replicate s.ya.length 0,([]:List Nod))) fun v=>NumQ s (fg q) s.ya.length v.1/\v.2=kept s (fg l) (fg q) s.ya.length:=by
 have p:=hf.nodes;refine ka4 (xs:=s.ya) (step:=kg7 s l q) (fun (j:Nat) (v:List Int×List Nod)=>((j:Int),v.1,v.2)) (fun j v=>NumQ s (fg q) j v.1/\v.2=kept s (fg l) (fg q) j) (t0:=(List.replicate s.ya.length 0,[])) (by omega) ⟨⟨List.length_replicate,fun k h=>by omega⟩,rfl⟩ (fun i v hi ⟨h1,g⟩=>?_) (fun v ⟨h1,g⟩=>?_)
 ·obtain ⟨num,nds⟩:=v;simp only at h1 g;subst g;have hn:=qa hi;have f:i<num.length:=by rw [h1.1];exact hi
  have e1:num[i]?=some num[i]:=qa f;simp only [kg7,kan hi,qe,kag,e1,hn,qb,kom (show i<q.length by omega),qbw,kk0,kak hi (show s.ya.length<=9223372036854775807 by omega)];cases m:fg q i with
  | false=>
   simp only [Bool.not_false,qe,qb,qa9];refine ⟨_,rfl,(_,_),rfl,⟨h1.1,fun k hk b=>?_⟩,?_⟩
   ·by_cases d:k=i;subst d;rw [m] at b;cases b
    ·exact h1.2 k (by omega) b
   ·rw [knx hn,qj (by rw [m];simp),qbh];rfl
  | true=>
   have c:NumQ s (fg q) (i+1) (List.set num i (cntP (fg q) i:Int)):=by
    refine ⟨by rw [qbs];exact h1.1,fun k hk b=>?_⟩;by_cases d:k=i;subst d;rw [qbj f]
    ·rw [qbm (by omega)];exact h1.2 k (by omega) b
   simp only [qbd,qf];obtain ⟨v,hv,rfl⟩:=popts hf hl hn (e i _ hn m) ((i:Int),num,kept s (fg l) (fg q) i) (List.set num i (cntP (fg q) i:Int)) (by simp [kk0]) c;have:=kur (fg q) i;rw [hv,qb,kb4 (by rw [kk0,qak];omega)];simp only [qb,qaq];refine ⟨_,rfl,(_,_),rfl,c,?_⟩;rw [knx hn,qn m];rfl
 ·exact ⟨_,by simp only [kg7,kal,qf],_,rfl,h1,g⟩
theorem kaa4 {l:List Bool} {p:Nat->Bool} (hl:l.length=s.ya.length) (c:∀ r∈s.ye,fg l r.toNat=true->p r.toNat=true) (x:List Int×List Nod) (f:NumQ s p s.ya.length x.1):Ev (kac (kha s l x) fuel (0,([]:List Int))) fun v=>v=(s.ye.filter fun r=>fg l r.toNat).map (numI p):=by
 have g:=kk5 hf.roots;have h:=hf.nodes;refine ka4 (xs:=s.ye) (step:=kha s l x) (fun (j:Nat) (q:List Int)=>((j:Int),q)) (fun j q=>q=((s.ye.take j).filter fun r=>fg l r.toNat).map (numI p)) (by omega) (by simp) (fun j q b h1=>?_) (fun q h1=>?_)
 ·subst h1;have hr:=qa b;have hm:=qo b;have a:=hf.roots.1 _ hm;simp only [kha,kan b,qe,kag,hr,qb,kkq l a.1,kak b (show s.ye.length<=9223372036854775807 by omega)];cases d:fg l s.ye[j].toNat with
  | false=>
   simp only [qf,qb];refine ⟨_,rfl,_,rfl,?_⟩;rw [kh1 _ b,qj (by rw [d];simp),qbh]
  | true=>
   simp only [qe,f.idx a.1 a.2 (c _ hm d),qb];have e:(((s.ye.take j).filter fun r=>fg l r.toNat).map (numI p)).length<=j:=(by rw [qaa];refine qap (List.length_filter_le _ _) ?_;rw [qav];omega);rw [kb4 (by rw [qak];omega)];simp only [qb];refine ⟨_,rfl,_,rfl,?_⟩;rw [kh1 _ b,qn d,qas];rfl
 ·subst h1;rw [qae];exact ⟨_,by simp only [kha,kal,qf],_,rfl,rfl⟩
omit hf in
theorem kabk {l q:List Bool} (h:k7c s l q):knn s (fg l) (fg q):=
 ⟨fun i t c=>kzy h.full t i c,fun r hr b=>(h.need _).2 (.root hr b),fun i n o d hn ho hfo a ha=>(h.need _).2 (.arg ((h.need _).1 d) hn ho hfo ha)⟩
end
theorem k15 {s:Spa} (d:kl9 s):Ev (ki5 s) fun r=>(¬ kbh s/\r=(⟨[],[]⟩,4))\/(kbh s/\∃ l q,k7c s l q/\r=(kep (fg l) (fg q) s,0)):=by
 unfold ki5;obtain ⟨b,e,c⟩:=k2s d;rw [e,qb];cases b with
 | false=>exact ⟨_,rfl, .inl ⟨fun h=>absurd (c.2 h) qa0,rfl⟩⟩
 | true=>
  have hf:=c.1 rfl;have f:=hf.nodes;simp only [qbd,qf];obtain ⟨l,hl,l1,l2⟩:=k57 hf;rw [hl,qb,klp 1 false s.ya.length,qb];obtain ⟨p,hp,p1,p2,p3⟩:=k4u hf l1;rw [hp,qb];obtain ⟨q,g,q1,q2,q3,q4⟩:=kaa6 hf l1 p1 p3;rw [g,qb,klp 8 0 s.ya.length,qb];obtain ⟨v,hv,v1,v2⟩:=kabv hf l1 q1 q3;rw [hv,qb];obtain ⟨u,i,rfl⟩:=kaa4 (p:=fg q) hf l1 (fun r hr a=>q2 _ (by rw [p2 r hr];exact a)) v v1;rw [i,qb];refine ⟨_,rfl, .inr ⟨hf,l,q,⟨l1,l2,q1,fun k=>⟨q4 k,fun h=>?_⟩⟩,?_⟩⟩
  ·induction h with
   | root hr a=>exact q2 _ (by rw [p2 _ hr];exact a)
   | arg _ hn ho hfo ha ih=>exact q3 _ _ hn ih _ ho hfo _ ha
  ·rw [v2];rfl
theorem kvs (a b:Tm):cmpT b a = -cmpT a b:=cmpT_ord.anti a b trivial
theorem kv5 {a b c:Tm} (h:cmpT a b<0) (k:cmpT b c<0):cmpT a c<0:=by
 have h1:=cmpT_ord.trans a b c trivial trivial trivial (by omega) (by omega);by_cases h0:cmpT a c=0;have:=cmpT_eq0.1 h0;subst this;have:=kvs a b;omega
 ·omega
def SLt (xs:List Tm):Prop:=xs.Pairwise fun a b=>cmpT a b<0
theorem SLt.nodup {xs:List Tm} (h:SLt xs):xs.Nodup:=List.Pairwise.imp (fun {a b} c e=>by subst e;have:=cmpT_eq0.2 (rfl:a=a);omega) h
theorem SLt.len {xs X:List Tm} (h:SLt xs) (hX:∀ u∈xs,u∈X):xs.length<=X.length:=kqn xs X h.nodup hX
theorem kzs {xs:List Tm} (t:Tm) (hs:SLt xs) (x:∀ u∈xs,u.size<=1000) (ht:t.size<=1000) (hl:xs.length<=100000:=by omega):Ev (kb3 xs t) fun r=>SLt r/\∀ u,u∈r↔u∈xs\/u=t:=by
 unfold kb3;have f:=List.pairwise_iff_getElem.1 hs;refine kbp (Ev.mono (km0 (step:=kdn xs t) (Q:=fun v=>∃ n:Nat,v=(n:Int)/\n<=xs.length/\(∀ j (d:j<xs.length),n<=j->0<=cmpT xs[j] t)/\∀ j (d:j<xs.length),j<n->cmpT xs[j] t<0)
  (fun v=>∃ n:Nat,v=(n:Int)/\n<=xs.length/\∀ j (d:j<xs.length),n<=j->0<=cmpT xs[j] t) (fun v=>v.toNat) (by show (xs.length:Int).toNat<_;omega) ⟨xs.length,rfl,qy _,fun j d h=>by omega⟩ ?_) ?_)
 ·rintro v ⟨n,rfl,hn,h1⟩;by_cases h0:0<n
  ·have k:n - 1<xs.length:=(by omega);have e1:w64 ((n:Int) - 1)=((n - 1:Nat):Int):=(by rw [kdf];omega);have e2:decide ((0:Int)<(n:Int))=true:=qs (by omega);simp only [kdn,e2,qe,e1,kag,qa k,qb,krq _ _ (x _ (qo k)) ht];by_cases o:0<=cmpT xs[n - 1] t
   ·rw [qs o,qe];refine ⟨_,rfl,⟨n - 1,rfl,by omega,fun j d z=>?_⟩,by show ((n - 1:Nat):Int).toNat<(n:Int).toNat;omega⟩;by_cases p:j=n - 1;subst p;exact o
    ·exact h1 j d (by omega)
   ·rw [qp o,qf];refine ⟨_,rfl,n,rfl,hn,h1,fun j d p=>?_⟩;by_cases s:j=n - 1;subst s;omega
    ·exact kv5 (f j (n - 1) d k (by omega)) (by omega)
  ·obtain rfl:n=0:=(by omega);refine ⟨.inr 0,by simp only [kdn];rfl,0,rfl,by omega,h1,fun j d h=>by omega⟩
 ·rintro v ⟨n,rfl,hn,h1,o⟩;have q:(∀ c:n<xs.length,cmpT xs[n] t≠0)->SLt (xs.take n++[t]++xs.drop n)/\∀ u,u∈xs.take n++[t]++xs.drop n↔u∈xs\/u=t:=fun l=>by
   constructor
   ·unfold SLt;rw [qa1,List.pairwise_append];refine ⟨List.Pairwise.sublist (List.take_sublist _ _) hs,?_,fun a ha b m=>?_⟩
    ·rw [List.singleton_append,List.pairwise_cons];refine ⟨fun b m=>?_,List.Pairwise.sublist (List.drop_sublist _ _) hs⟩;obtain ⟨j,d,rfl⟩:=qah.1 m;rw [qba] at d;rw [List.getElem_drop];have c:n<xs.length:=(by omega);have y:cmpT t xs[n]<0:=(by have:=h1 n c (qy _);have:=l c;rw [kvs];omega);by_cases w:j=0;subst w;exact y
     ·exact kv5 y (f n (n+j) c (by omega) (by omega))
    ·obtain ⟨i,hi,rfl⟩:=qah.1 ha;rw [qav] at hi;rw [List.getElem_take];rw [List.singleton_append] at m;rcases qat.1 m with rfl | m;exact o i (by omega) (by omega)
     ·obtain ⟨j,d,rfl⟩:=qah.1 m;rw [qba] at d;rw [List.getElem_drop];exact f i (n+j) (by omega) (by omega) (by omega)
   ·intro u;have:u∈xs↔u∈xs.take n\/u∈xs.drop n:=(by rw [<- qab,List.take_append_drop]);rw [this];simp only [qab,q9];constructor
    ·rintro ((h | h) | h);exact .inl (.inl h);exact .inr h
     ·exact .inl (.inr h)
    ·rintro ((h | h) | h);exact .inl (.inl h);exact .inr h
     ·exact .inl (.inr h)
  have g:(∀ c:n<xs.length,cmpT xs[n] t≠0)->Ev (Option.bind (cutL xs 0 (n:Int)) fun v12=>Option.bind (app 32 ([]:List Tm) v12) fun v13=>Option.bind (app 32 v13 ([t]:List Tm)) fun v14=>Option.bind (cutL xs (n:Int) xs.length) fun v15=>Option.bind (app 32 v14 v15) fun v16=>some v16) (fun r=>SLt r/\∀ u,u∈r↔u∈xs\/u=t):=fun l=>by
   have e1:cutL xs 0 (n:Int)=some (xs.take n):=(by unfold cutL;rw [qn ⟨by omega,by omega,by omega⟩];simp);have e2:cutL xs (n:Int) xs.length=some (xs.drop n):=(by unfold cutL;rw [qn ⟨by omega,by omega,by omega⟩];simp);have c:(xs.take n).length<=n:=(by rw [qav];omega);rw [e1,qb,kb4 (by simp only [List.length_nil];omega),qb,List.nil_append,kb4 (by simp only [qak];omega),qb,e2,qb,
    kb4 (by simp only [qaj,qak,qba];omega),qb]
   exact ⟨_,rfl,q l⟩
  by_cases c:n<xs.length
  ·simp only [kan c,qe,kag,qa c,qb,krq _ _ (x _ (qo c)) ht];by_cases hc:cmpT xs[n] t=0;rw [show (cmpT xs[n] t == 0)=true by simp [hc],qe];have:=cmpT_eq0.1 hc;exact ⟨_,rfl,hs,fun u=>⟨fun h => .inl h,fun h=>h.elim id fun e=>by rw [e,<- this];exact qo c⟩⟩
   ·rw [show (cmpT xs[n] t == 0)=false by simp [hc],qf];exact g fun _=>hc
  ·have e1:decide ((n:Int)<(xs.length:Int))=false:=qp (by omega);simp only [e1,qf,qb];exact g fun h=>absurd h c
def Ch (L:List (List Tm)):List Int->List Tm->Prop
 | [],ts=>ts=[]
 | a::vs,ts=>∃ row t us,0<=a/\L[a.toNat]?=some row/\t∈row/\ts=t::us/\Ch L vs us
theorem kyb {L:List (List Tm)} {o:Opn} {X:List Tm} (hX:X.length<=4096) (hXs:∀ u∈X,u.size<=1000) (H:∀ row∈L,row.length<=4096) (ho:o.yb.length<=24) (s:∀ a∈o.yb,0<=a/\a<(L.length:Int)):
  ∀ (n:Nat) (args:List Tm) (l:List Tm),args.length<=o.yb.length->o.yb.length - args.length<n->SLt l->(∀ u∈l,u∈X)->(∀ us,Ch L (o.yb.drop args.length) us->Tm.mk o.yd (args++us)∈X) ->
   Ev (kco n l o L args) fun r=>SLt r/\∀ u,u∈r↔u∈l\/∃ us,Ch L (o.yb.drop args.length) us/\u=Tm.mk o.yd (args++us)
 | 0,args,l,_,h,_,_,_=>by omega
 | n+1,args,l,ha,hn,hs,hl,hc=>by
  show Ev (kdy (kco n) l o L args) _;unfold kdy;have I:=hs.len hl;have e0:decide ((4096:Int)<(l.length:Int))=false:=qp (by omega);simp only [e0,qf];by_cases e:args.length=o.yb.length
  ·have e1:((args.length:Int) == (o.yb.length:Int))=true:=(by simp [e]);simp only [e1,qe];rw [e,List.drop_length] at hc ⊢;have D:Tm.mk o.yd args∈X:=(by have:=hc [] rfl;rw [qbh] at this;exact this);have v:=kzs (Tm.mk o.yd args) hs (fun u w=>hXs u (hl u w)) (hXs _ D);have y:Ev (kb3 l (Tm.mk o.yd args)) fun r=>SLt r/\∀ u,u∈r↔u∈l\/∃ us,Ch L [] us/\u=Tm.mk o.yd (args++us):=Ev.mono v fun r ⟨h1,d⟩=>⟨h1,fun u=>by
    rw [d u];constructor
    ·rintro (h | h);exact .inl h
     ·exact .inr ⟨[],rfl,by rw [qbh];exact h⟩
    ·rintro (h | ⟨us,rfl,h⟩);exact .inl h
     ·rw [qbh] at h;exact .inr h⟩
   obtain ⟨r,hr,z⟩:=y;cases args with
   | nil=>
    simp only [List.isEmpty_nil,qe,hr,qb];exact ⟨r,rfl,z⟩
   | cons x args=>
    have e2:appN 32 ([]:List Tm) (x::args)=some (x::args):=(by unfold appN;rw [List.isEmpty_cons,qf,kb4 (by simp only [List.length_nil];omega)];rfl);simp only [List.isEmpty_cons,qf,e2,qb,hr];exact ⟨r,rfl,z⟩
  ·have e1:((args.length:Int) == (o.yb.length:Int))=false:=(by rw [qbu];omega);have p:args.length<o.yb.length:=(by omega);have E:=qa p;have f:=s _ (qo p);have F:∃ row,L[o.yb[args.length].toNat]?=some row:=⟨_,qa (by omega)⟩;obtain ⟨row,b⟩:=F;have A:idx L o.yb[args.length]=some row:=(by unfold idx;rw [qn f.1,b]);have J:=H row (qk b);have g:o.yb.drop args.length=o.yb[args.length]::o.yb.drop (args.length+1):=qbb p;simp only [e1,qf,kag,E,qb,A];refine kbp (Ev.mono (ka4 (xs:=row) (step:=kdm o L args (kco n) row) (fun (j:Nat) (c:List Tm)=>(c,(j:Int))) (fun j c=>SLt c/\(∀ u∈c,u∈X)/\∀ u,u∈c↔u∈l\/∃ t us,t∈row.take j/\Ch L (o.yb.drop (args.length+1)) us/\u=Tm.mk o.yd (args++(t::us)))
    (Q:=fun c=>SLt c/\∀ u,u∈c↔u∈l\/∃ us,Ch L (o.yb.drop args.length) us/\u=Tm.mk o.yd (args++us)) (t0:=l) (by omega) ⟨hs,hl,by simp⟩ (fun j c B ⟨c1,c2,c3⟩=>?_) (fun c ⟨c1,c2,c3⟩=>?_)) (fun c h=>⟨c,rfl,h⟩))
   ·have G:=qa B;have C:∀ us,Ch L (o.yb.drop (args.length+1)) us->Tm.mk o.yd (args++[row[j]]++us)∈X:=fun us w=>(by rw [qa1];exact hc _ (by rw [g];exact ⟨row,row[j],us,f.1,b,qo B,rfl,w⟩));have i:=kyb hX hXs H ho s n (args++[row[j]]) c (by simp;omega) (by simp;omega) c1 c2 (by simp only [qaj,qak];exact C);simp only [qaj,qak] at i;obtain ⟨c',q,d1,d2⟩:=i;have k:SLt c'/\(∀ u∈c',u∈X)/\∀ u,u∈c'↔u∈l\/∃ t us,t∈row.take (j+1)/\Ch L (o.yb.drop (args.length+1)) us/\u=Tm.mk o.yd (args++(t::us)):=by
     refine ⟨d1,fun u w=>?_,fun u=>?_⟩
     ·rcases (d2 u).1 w with h | ⟨us,h,rfl⟩;exact c2 u h
      ·exact C us h
     ·rw [d2 u,c3 u,qx B];simp only [qab,q9];constructor
      ·rintro ((h | ⟨t,us,h1,d,m⟩) | ⟨us,h1,d⟩);exact .inl h;exact .inr ⟨t,us, .inl h1,d,m⟩
       ·exact .inr ⟨_,us, .inr rfl,h1,by rw [d,qa1];rfl⟩
      ·rintro (h | ⟨t,us,h1 | rfl,d,m⟩);exact .inl (.inl h);exact .inl (.inr ⟨t,us,h1,d,m⟩)
       ·exact .inr ⟨us,d,by rw [m,qa1];rfl⟩
    simp only [kdm,kan B,qe,kag,G,qb,kak B (show row.length<=9223372036854775807 by omega)];have e3:appN 32 ([]:List Tm) [row[j]]=some [row[j]]:=(by unfold appN;rw [List.isEmpty_cons,qf,kb4 (by simp)];rfl);cases args with
    | nil=>
     simp only [List.nil_append] at q;simp only [List.isEmpty_nil,qe,e3,qb,q];exact ⟨_,rfl,c',rfl,k⟩
    | cons x args=>
     have e2:appN 32 ([]:List Tm) (x::args)=some (x::args):=(by unfold appN;rw [List.isEmpty_cons,qf,kb4 (by simp only [List.length_nil];omega)];rfl);simp only [List.isEmpty_cons,qf,e2,qb];rw [kb4 (by rw [qak];omega)];simp only [qb,q];exact ⟨_,rfl,c',rfl,k⟩
   ·refine ⟨_,by simp only [kdm,kal,qf],_,rfl,c1,fun u=>?_⟩;rw [c3 u,qae,g];constructor
    ·rintro (h | ⟨t,us,h1,d,m⟩);exact .inl h
     ·exact .inr ⟨t::us,⟨row,t,us,f.1,b,h1,rfl,d⟩,m⟩
    ·rintro (h | ⟨ts,⟨row',t,us,h0,h1,d,rfl,m⟩,K⟩);exact .inl h
     ·rw [b] at h1;cases h1;exact .inr ⟨t,us,d,m,K⟩
theorem k2d {ns:List Nod} {L:List (List Tm)} (c:∀ (k:Nat) (row:List Tm),L[k]?=some row->∀ t,t∈row↔Bt ns k t):∀ (vs:List Int) (ts:List Tm),(∀ a∈vs,0<=a/\a<(L.length:Int))->(Ch L vs ts↔Bts ns vs ts)
 | [],ts,_=>⟨fun h=>by cases h;exact .nil,fun h=>by cases h;rfl⟩
 | a::vs,ts,h=>by
  have ha:=h a (qq ..);have ih:=fun us=>k2d c vs us fun b d=>h b (qh _ d);constructor;rintro ⟨row,t,us,h0,h1,e,rfl,f⟩;exact .cons h0 ((c _ _ h1 t).1 e) ((ih us).1 f)
  ·intro d;cases d with
   | cons h0 ht hs=>
    have hr:L[a.toNat]?=some (L[a.toNat]'(by omega)):=qa _;exact ⟨_,_,_,h0,hr,(c _ _ hr _).2 ht,rfl,(ih _).2 hs⟩
def FewT (ns:List Nod):Prop:=∀ i,∃ X:List Tm,X.length<=4096/\(∀ u∈X,u.size<=1000)/\∀ t,Bt ns i t->t∈X
theorem k6m {s:Spa} {f p:Nat->Bool} (hf:kbh s) (hk:knn s f p) (h:FewT s.ya):FewT (kep f p s).ya:=fun j=>by
 by_cases a:j<(kep f p s).ya.length;obtain ⟨i,n,_,_,_,h1⟩:=kvl hf hk (qa a);obtain ⟨X,b,c,d⟩:=h i;exact ⟨X,b,c,fun t ht=>d t (h1 t ht)⟩
 ·exact ⟨[],by simp,by simp,fun t ht=>absurd (kpj ht) a⟩
theorem k28 {s:Spa} (hf:kbh s) {L:List (List Tm)} {i:Nat} {n:Nod} (hn:s.ya[i]?=some n) (y:L.length=i) (x:∀ (k:Nat) (row:List Tm),L[k]?=some row->SLt row/\∀ t,t∈row↔Bt s.ya k t) (q:FewT s.ya) (v1:Spa×Int) (hv:v1.1=s) (v2:Int×List (List Tm)) (b:v2=((i:Int),L)):
  Ev (kac (kcy v1 v2) fuel (([]:List Tm),0)) fun l=>SLt l/\l.length<=4096/\∀ t,t∈l↔Bt s.ya i t:=by
 subst hv b;have z:=olen hf hn;obtain ⟨X,x1,x2,x3⟩:=q i;have h:∀ row∈L,row.length<=4096:=fun row hr=>by obtain ⟨k,hk⟩:=qal.1 hr;obtain ⟨h1,b⟩:=x k row hk;obtain ⟨Y,y1,_,y3⟩:=q k;exact qap (h1.len fun u f=>y3 u ((b u).1 f)) y1
 refine ka4 (xs:=n.yc) (step:=kcy v1 ((i:Int),L)) (fun (j:Nat) (c:List Tm)=>(c,(j:Int))) (fun j c=>SLt c/\∀ t,t∈c↔∃ o ts,o∈n.yc.take j/\Bts v1.1.ya o.yb ts/\t=Tm.mk o.yd ts) (by omega) ⟨List.Pairwise.nil,by simp⟩ (fun j c p ⟨c1,c2⟩=>?_) (fun c ⟨c1,c2⟩=>?_)
 ·have ho:=qa p;have hm:=qo p;have d:∀ a∈n.yc[j].yb,0<=a/\a<(L.length:Int):=fun a ha=>by have:=kif hf hn hm ha;omega
  have g:=k2d (fun k row hk=>(x k row hk).2) n.yc[j].yb;simp only [kcy,kag,hn,ho,qb,kan p,qe,kak p (show n.yc.length<=9223372036854775807 by omega)];refine kbp (Ev.mono (kyb (X:=X) x1 x2 h (kds hf hn hm) d fuel [] c (by simp) (kb8 (by have:=kds hf hn hm;simp;omega)) c1 (fun u f=>?_) (fun us f=>?_)) fun r ⟨r1,r2⟩=>?_);obtain ⟨o,ts,h1,b,rfl⟩:=(c2 u).1 f;exact x3 _ (.mk hn (qa8 h1) b);have w:Ch L n.yc[j].yb us:=f;rw [List.nil_append];exact x3 _ (.mk hn hm ((g us d).1 w))
  ·refine ⟨_,rfl,r,rfl,r1,fun t=>?_⟩;rw [r2 t,c2 t,qx p];simp only [qab,q9,List.length_nil,List.drop_zero,List.nil_append];constructor
   ·rintro (⟨o,ts,h1,b,v⟩ | ⟨us,h1,b⟩);exact ⟨o,ts, .inl h1,b,v⟩
    ·exact ⟨_,us, .inr rfl,(g us d).1 h1,b⟩
   ·rintro ⟨o,ts,h1 | rfl,b,v⟩;exact .inl ⟨o,ts,h1,b,v⟩
    ·exact .inr ⟨ts,(g ts d).2 b,v⟩
 ·have e:∀ t,t∈c↔Bt v1.1.ya i t:=fun t=>by
   rw [c2 t,qae];constructor;rintro ⟨o,ts,h1,b,rfl⟩;exact .mk hn h1 b
   ·intro q;obtain ⟨m,o,ts,hm,ho,rfl,hs⟩:=q.inv;rw [hn] at hm;cases hm;exact ⟨o,ts,ho,hs,rfl⟩
  exact ⟨_,by simp only [kcy,kag,hn,qb,kal,qf],_,rfl,c1,qap (c1.len fun u f=>x3 u ((e u).1 f)) x1,e⟩
theorem k3t {s:Spa} (hf:kbh s) (I:FewT s.ya) (Y:List Tm) (J:Y.length<=4096) (x:∀ u∈Y,u.size<=1000) (B:∀ t,InS s t->t∈Y):Ev (kex s) fun r=>r.2=0/\SLt r.1/\∀ t,t∈r.1↔InS s t:=by
 unfold kex;obtain ⟨v1,hv,C⟩:=k6a (ku7 hf);rcases C with ⟨h,_⟩ | ⟨_,f,p,hk,rfl⟩;exact absurd hf h;have e:=kvt hf hk;have D:=k6m hf hk I;have g:=kwz hf hk;generalize K:kep f p s=s' at *
 have M:=e.nodes;rw [hv,qb];show Ev (bif ((0:Int) != 0) then _ else _) _;rw [show ((0:Int) != 0)=false from rfl,qf];refine kbp (Ev.mono (ka4 (xs:=s'.ya) (step:=kd5 (s',0)) (fun (i:Nat) (L:List (List Tm))=>((i:Int),L)) (fun i L=>L.length=i/\∀ (k:Nat) (row:List Tm),L[k]?=some row->SLt row/\∀ t,t∈row↔Bt s'.ya k t)
  (Q:=fun r=>∃ L:List (List Tm),r = .inl L/\L.length=s'.ya.length/\∀ (k:Nat) (row:List Tm),L[k]?=some row->SLt row/\∀ t,t∈row↔Bt s'.ya k t) (t0:=[]) (by omega) ⟨rfl,by simp⟩ (fun i L hi ⟨l1,l2⟩=>?_) (fun L ⟨l1,l2⟩=>?_)) ?_)
 ·have hn:=qa hi;simp only [kd5,kan hi,qe,kak hi (show s'.ya.length<=9223372036854775807 by omega)];refine kbp (Ev.mono (k28 e hn l1 l2 D (s',0) rfl _ rfl) fun l ⟨g1,g2,g3⟩=>?_);have e1:decide ((4096:Int)<(l.length:Int))=false:=qp (by omega);simp only [e1,qf];rw [kb4 (by rw [qak];omega),qb];refine ⟨_,rfl,_,rfl,by rw [qaj,l1];rfl,fun k row hk=>?_⟩;by_cases E:k<L.length;rw [qac E] at hk;exact l2 k row hk
  ·rw [qai (by omega)] at hk;have h0:k - L.length=0:=(by have:=(qd.1 hk).1;simpa using this);rw [h0] at hk;simp at hk;subst hk;have:k=i:=(by omega);subst this;exact ⟨g1,g3⟩
 exact ⟨_,by simp only [kd5,kal,qf],_,rfl,L,rfl,l1,l2⟩
 ·rintro r ⟨L,rfl,l1,l2⟩;simp only [qaq];have N:=kk5 e.roots;have a:∀ t,InS s' t->t∈Y:=fun t ht=>B t ((g t).1 ht);refine kbp (Ev.mono (ka4 (xs:=s'.ye) (step:=kdz (s',0) L) (fun (j:Nat) (c:List Tm)=>(c,(j:Int))) (fun j c=>SLt c/\∀ t,t∈c↔∃ r∈s'.ye.take j,0<=r/\Bt s'.ya r.toNat t) (Q:=fun c=>SLt c/\∀ t,t∈c↔InS s' t) (t0:=[]) (by omega) ⟨List.Pairwise.nil,by simp⟩ (fun j c v ⟨c1,c2⟩=>?_) (fun c ⟨c1,c2⟩=>?_)) ?_)
  ·have hr:=qa v;have o:=e.roots.1 _ (qo v);have n:L[s'.ye[j].toNat]?=some (L[s'.ye[j].toNat]'(by omega)):=qa _;have y:idx L s'.ye[j]=some (L[s'.ye[j].toNat]'(by omega)):=(by unfold idx;rw [qn o.1,n]);obtain ⟨k1,k2⟩:=l2 _ _ n;generalize L[s'.ye[j].toNat]'(by omega)=row at *
   have b:∀ t,Bt s'.ya s'.ye[j].toNat t->InS s' t:=fun t ht=>⟨_,qo v,o.1,ht⟩;have F:∀ u,(∃ r∈s'.ye.take j,0<=r/\Bt s'.ya r.toNat u)->u∈Y:=fun u ⟨r,h1,z,w⟩=>a u ⟨r,qa8 h1,z,w⟩;have G:row.length<=4096:=qap (k1.len fun u q=>a u (b u ((k2 u).1 q))) J;simp only [kdz,kan v,qe,kag,hr,y,qb,kak v (show s'.ye.length<=9223372036854775807 by omega)];refine kbp (Ev.mono (ka4 (xs:=row) (step:=kdx row) (fun (m:Nat) (d:List Tm)=>(d,(m:Int))) (fun m d=>SLt d/\∀ t,t∈d↔t∈c\/t∈row.take m) (Q:=fun d=>SLt d/\∀ t,t∈d↔t∈c\/t∈row) (t0:=c) (by omega) ⟨c1,by simp⟩ (fun m d hm ⟨d1,d2⟩=>?_) (fun d ⟨d1,d2⟩=>?_)) ?_)
   ·have H:=qa hm;have A:∀ u∈d,u∈Y:=fun u q=>by
     rcases (d2 u).1 q with h | h;exact F u ((c2 u).1 h)
     ·exact a u (b u ((k2 u).1 (qa8 h)))
    have O:=d1.len A;have e1:decide ((d.length:Int)<=4096)=true:=qs (by omega);simp only [kdx,kan hm,qe,e1,qb,kag,H,kak hm (show row.length<=9223372036854775807 by omega)];refine kbp (Ev.mono (kzs (row[m]) d1 (fun u q=>x u (A u q)) (x _ (a _ (b _ ((k2 _).1 (qo hm)))))) fun d' ⟨g1,g2⟩=>?_);refine ⟨_,rfl,d',rfl,g1,fun t=>?_⟩;rw [g2 t,d2 t,qx hm];simp only [qab,q9];exact or_assoc
   refine ⟨_,by simp only [kdx,kal,qf,qb],_,rfl,d1,?_⟩;rw [qae] at d2;exact d2
   ·rintro d ⟨d1,d2⟩;refine ⟨_,rfl,d,rfl,d1,fun t=>?_⟩;rw [d2 t,c2 t,k2 t,qx v];simp only [qab,q9];constructor
    ·rintro (⟨r,h1,z,w⟩ | h);exact ⟨r, .inl h1,z,w⟩
     ·exact ⟨_, .inr rfl,o.1,h⟩
    ·rintro ⟨r,h1 | rfl,z,w⟩;exact .inl ⟨r,h1,z,w⟩
     ·exact .inr w
  refine ⟨_,by simp only [kdz,kal,qf],_,rfl,c1,fun t=>?_⟩;rw [c2 t,qae];exact Iff.rfl
  ·rintro c ⟨c1,c2⟩;have hcl:=c1.len fun u q=>a u ((c2 u).1 q);have e1:decide ((4096:Int)<(c.length:Int))=false:=qp (by omega);rw [e1,qf];exact ⟨_,rfl,rfl,c1,fun t=>by rw [c2 t];exact g t⟩
theorem idxN {α:Type} {xs:List α} {a:Int} (h:0<=a):idx xs a=xs[a.toNat]?:=by rw [<- kag,Int.toNat_of_nonneg h]
def prT (X:Int->List Tm):List Int->List (List Tm)
 | []=>[[]]
 | a::vs=>(X a).flatMap fun t=>(prT X vs).map (t::·)
def khq (c:Int->Nat):List Int->Nat
 | []=>1
 | a::vs=>c a*khq c vs
theorem kt4 (c:Int->Nat) (a:Int):∀ vs:List Int,khq c (vs++[a])=khq c vs*c a
 | []=>by simp [khq]
 | b::vs=>by rw [qbp,khq,khq,kt4 c a vs,Nat.mul_assoc]
theorem k0g (X:Int->List Tm):∀ vs:List Int,(prT X vs).length=khq (fun a=>(X a).length) vs
 | []=>rfl
 | a::vs=>by
  rw [prT,khq,List.length_flatMap,<- k0g X vs];have key:∀ ys:List Tm,(ys.map fun t=>((prT X vs).map (t::·)).length).sum=ys.length*(prT X vs).length:=fun ys=>by
   induction ys with
   | nil=>simp
   | cons y ys ih=>rw [qao,List.sum_cons,ih,qaa,qbq,qbi];omega
  exact key _
def tlO (X:Int->List Tm) (o:Opn):List Tm:=(prT X o.yb).map (Tm.mk o.yd)
def tlN (X:Int->List Tm) (n:Nod):List Tm:=n.yc.flatMap (tlO X)
def tls (ns:List Nod):Nat->Int->List Tm
 | 0,_=>[]
 | i+1,a=>if a=(i:Int) then (match ns[i]? with | some n=>tlN (tls ns i) n | none=>[]) else tls ns i a
def TL (ns:List Nod) (i:Nat):List Tm:=tls ns (i+1) (i:Int)
theorem kxx (ns:List Nod):∀ (i:Nat) (a:Nat),a<i->tls ns i (a:Int)=TL ns a
 | 0,a,h=>by omega
 | i+1,a,h=>by
  by_cases e:a=i;subst e;rfl
  ·rw [tls,qj (by omega)];exact kxx ns i a (by omega)
theorem k7f {ns:List Nod} {i:Nat} {n:Nod} (hn:ns[i]?=some n) (c:∀ o∈n.yc,∀ a∈o.yb,0<=a/\a<(i:Int)):TL ns i=tlN (fun a=>TL ns a.toNat) n:=by
 unfold TL;rw [tls,qn rfl,hn];simp only;unfold tlN;have gen:∀ os:List Opn,(∀ o∈os,∀ a∈o.yb,0<=a/\a<(i:Int))->os.flatMap (tlO (tls ns i))=os.flatMap (tlO fun a=>TL ns a.toNat):=fun os=>by
  induction os with
  | nil=>intro _;rfl
  | cons o os ih=>
   intro h;rw [qbv,qbv,ih fun p hp=>h p (qh _ hp)];congr 1;unfold tlO;congr 1;have gen2:∀ vs:List Int,(∀ a∈vs,0<=a/\a<(i:Int))->prT (tls ns i) vs=prT (fun a=>TL ns a.toNat) vs:=fun vs=>by
    induction vs with
    | nil=>intro _;rfl
    | cons a vs ih2=>
     intro hv;have ha:=hv a (qq ..);have e:tls ns i a=TL ns a.toNat:=(by have:=kxx ns i a.toNat (by omega);rw [Int.toNat_of_nonneg ha.1] at this;exact this);rw [prT,prT,ih2 fun b d=>hv b (qh _ d),e]
   exact gen2 _ (h o (qq ..))
 exact gen _ c
section
variable {s:Spa} (hf:kbh s)
include hf
theorem kabc {i:Nat} (hi:i<s.ya.length):(TL s.ya i).length=((s.ya[i]).yc.map fun o=>khq (fun a=>(TL s.ya a.toNat).length) o.yb).sum:=by have hn:=qa hi;rw [k7f hn (fun o ho=>ki9 hf hn (o:=o) ho)];unfold tlN;rw [List.length_flatMap];congr 1;refine List.map_congr_left fun o ho=>?_;unfold tlO;rw [qaa,k0g]
end
def cap (C x:Nat):Int:=((min x (C+1):Nat):Int)
theorem k3u (C x:Nat):0<=cap C x/\cap C x<=(C:Int)+1:=by unfold cap;omega
theorem k69 {C:Nat} (hC:C<=1000000):w64 ((C:Int)+1)=(C:Int)+1:=kdf
theorem capA {C:Nat} (hC:C<=1000000) (a b:Nat):imin (w64 (cap C a+cap C b)) (w64 ((C:Int)+1))=cap C (a+b):=by have h1:=k3u C a;have c:=k3u C b;rw [k69 hC,kdf];unfold imin cap;split <;> omega
theorem k84 (M a b:Nat) (e:1<=M):min (min a M*min b M) M=min (a*b) M:=by
 by_cases ha:a<=M
 ·by_cases d:b<=M;rw [Nat.min_eq_left ha,Nat.min_eq_left d]
  ·rw [Nat.min_eq_left ha,Nat.min_eq_right (show M<=b by omega)];cases a with
   | zero=>simp
   | succ a=>
    have h1:M<=(a+1)*M:=Nat.le_mul_of_pos_left _ (by omega);have c:M<=(a+1)*b:=qap (show M<=b by omega) (Nat.le_mul_of_pos_left _ (by omega));rw [Nat.min_eq_right h1,Nat.min_eq_right c]
 ·rw [Nat.min_eq_right (show M<=a by omega)];cases b with
  | zero=>simp
  | succ b=>
   have h1:M<=M*min (b+1) M:=Nat.le_mul_of_pos_right _ (by omega);have c:M<=a*(b+1):=qap (show M<=a by omega) (Nat.le_mul_of_pos_right _ (by omega));rw [Nat.min_eq_right h1,Nat.min_eq_right c]
theorem capM {C:Nat} (hC:C<=1000000) (a b:Nat):imin (w64 (cap C a*cap C b)) (w64 ((C:Int)+1))=cap C (a*b):=by
 have e:cap C a*cap C b=((min a (C+1)*min b (C+1):Nat):Int):=by unfold cap;rw [Int.natCast_mul]
 have c:min a (C+1)*min b (C+1)<=1000001*1000001:=Nat.mul_le_mul (by omega) (by omega);rw [k69 hC,e,kdf];have h:=k84 (C+1) a b (by omega);unfold imin cap;rw [<- h];split <;> omega
section
variable {s:Spa} (hf:kbh s) {C:Nat} (hC:C<=1000000)
def cT (s:Spa) (a:Int):Nat:=(TL s.ya a.toNat).length
def kno (s:Spa) (n:Nat):Nat:=((List.range n).map fun i=>(TL s.ya i).length).sum
include hf hC
theorem k6b {i:Nat} {n:Nod} {o:Opn} (hn:s.ya[i]?=some n) (ho:o∈n.yc) (ways:List Int) (f:∀ a:Nat,a<i->ways[a]?=some (cap C (TL s.ya a).length)) (k:Int):
  kac (kc0 (C:Int) (k,ways) o) fuel (1,0)=some (cap C (khq (cT s) o.yb)):=by
 have c:=ki9 hf hn ho;have g:=kds hf hn ho;have h:=kmr (kc0 (C:Int) (k,ways) o) o.yb.length (fun j=>(cap C (khq (cT s) (o.yb.take j)),(j:Int))) (cap C (khq (cT s) o.yb)) (fun j b=>?_) ?_
 ·have e:cap C (khq (cT s) (o.yb.take 0))=1:=by show cap C 1=1;unfold cap;omega
  rw [e] at h;exact h
 ·have ha:=c _ (qo b);have d:idx ways o.yb[j]=some (cap C (cT s o.yb[j])):=by rw [idxN ha.1,f _ (by omega)];rfl
  simp only [kc0,kan b,qe,kag,qa b,qb,d,kak b (show o.yb.length<=9223372036854775807 by omega)];rw [capM hC,<- kt4,List.take_append_getElem b]
 ·simp only [kc0,kal,qf,qae]
theorem k17 {i:Nat} (hi:i<s.ya.length) (ways:List Int) (d:ways.length=s.ya.length) (g:∀ a:Nat,a<i->ways[a]?=some (cap C (TL s.ya a).length)) (b:∀ a:Nat,i<=a->a<s.ya.length->ways[a]?=some 0) (k:Int):
  Ev (kac (kc7 s (C:Int) (k,(i:Int),ways)) fuel (0,ways)) fun w=>w.length=s.ya.length/\(∀ a:Nat,a<i+1->w[a]?=some (cap C (TL s.ya a).length))/\∀ a:Nat,i+1<=a->a<s.ya.length->w[a]?=some 0:=by
 have hn:=qa hi;have h:(s.ya[i]).yc.length<=32768:=qap (kmm hn) hf.opts
 let part:Nat->Nat:=fun j=>(((s.ya[i]).yc.take j).map fun o=>khq (cT s) o.yb).sum
 refine kq7 (step:=kc7 s (C:Int) (k,(i:Int),ways)) (s.ya[i]).yc.length (fun j st=>∃ w,st=((j:Int),w)/\w.length=s.ya.length/\(∀ a:Nat,a<i->w[a]?=some (cap C (TL s.ya a).length))/\w[i]?=some (cap C (part j))/\∀ a:Nat,i+1<=a->a<s.ya.length->w[a]?=some 0) (by omega)
  ⟨ways,rfl,d,g,by rw [b i (qy _) hi];show some 0=some (cap C 0);unfold cap;simp,fun a ha=>b a (by omega)⟩ (fun j st c hst=>?_) (fun st hst=>?_)
 ·obtain ⟨w,rfl,w1,w2,w3,w4⟩:=hst;have f:=k6b hf hC hn (qo c) w w2 (j:Int);simp only [kc7,kag,hn,qb,kan c,qe,qa c,f,w3,kak c (show (s.ya[i]).yc.length<=9223372036854775807 by omega),qbw];rw [capA hC];refine ⟨_,rfl,_,rfl,by rw [qbs];exact w1,fun a ha=>?_,?_,fun a h1 l=>?_⟩;rw [List.getElem?_set,qj (by omega)];exact w2 a ha;rw [List.getElem?_set,qn rfl,qn (by omega)];show some (cap C _)=some (cap C (part (j+1)));congr 2;show _=(((s.ya[i]).yc.take (j+1)).map fun o=>khq (cT s) o.yb).sum;rw [<- List.take_append_getElem c,qas,List.sum_append];show _=part j+_;simp
  ·rw [List.getElem?_set,qj (by omega)];exact w4 a h1 l
 ·obtain ⟨w,rfl,w1,w2,w3,w4⟩:=hst;refine ⟨.inr w,by simp only [kc7,kag,hn,qb,kal,qf],w,rfl,w1,fun a ha=>?_,w4⟩;by_cases e:a=i;subst e;rw [w3,kabc hf hi];show some (cap C (part (s.ya[a]).yc.length))=_;congr 2;show (((s.ya[a]).yc.take (s.ya[a]).yc.length).map fun o=>khq (cT s) o.yb).sum=_;rw [qae];rfl
  ·exact w2 a (by omega)
theorem k40:kfg s (C:Int)=some (cap C (kno s s.ya.length)):=by
 have d:=hf.nodes;unfold kfg;rw [klp 8 (0:Int) s.ya.length,qb];have b:((0:Int),(0:Int),List.replicate s.ya.length (0:Int))=(cap C (kno s 0),((0:Nat):Int),List.replicate s.ya.length (0:Int)):=by
  have e:cap C 0=0:=by unfold cap;simp
  show _=(cap C 0,_,_);rw [e];rfl
 refine Ev.eq (kbp (Ev.mono (kq7 (step:=kee s (C:Int)) (Q:=fun v=>v=cap C (kno s s.ya.length)) s.ya.length (fun i st=>∃ w,st=(cap C (kno s i),(i:Int),w)/\w.length=s.ya.length/\(∀ a:Nat,a<i->w[a]?=some (cap C (TL s.ya a).length))/\∀ a:Nat,i<=a->a<s.ya.length->w[a]?=some 0) (by omega)
  ⟨List.replicate s.ya.length 0,b,List.length_replicate,fun a ha=>by omega,fun a _ ha=>by rw [List.getElem?_replicate,qn ha]⟩ (fun i st hi hst=>?_) (fun st hst=>?_)) fun v h=>⟨v,rfl,h⟩))
 obtain ⟨w,rfl,w1,w2,w3⟩:=hst;obtain ⟨w',h1,f,c,g⟩:=k17 hf hC hi w w1 w2 w3 (cap C (kno s i));simp only [kee,kan hi,qe,h1,qb,kag,c i (by omega),kak hi (show s.ya.length<=9223372036854775807 by omega)];rw [capA hC];refine ⟨_,rfl,w',?_,f,c,g⟩;congr 2;unfold kno;rw [List.range_succ,qas,List.sum_append];simp
 ·obtain ⟨w,rfl,_⟩:=hst;exact ⟨.inr _,by simp only [kee,kal,qf],_,rfl,rfl⟩
omit hC in
theorem k31:∃ b,kez s 300=some b/\(b=true->s.ya.length<=40/\kno s s.ya.length<=300):=by
 have g:=hf.nodes;obtain ⟨b,j,d⟩:=ksz (ku7 hf);obtain rfl:b=true:=d.2 hf;have f:=k40 hf (C:=300) (by omega);unfold kez;by_cases e:s.ya.length<=40
 ·rw [qp (by omega),qf];have c:∀ i,optN (s.ya.take i)<=32768:=fun i=>qap (kiu _ _) hf.opts;obtain ⟨v,hv,_⟩:=km0 (step:=kd4 s) (s0:=(0,0)) (Q:=fun _=>True) (fun st=>∃ i:Nat,st=((optN (s.ya.take i):Int),(i:Int))/\i<=s.ya.length) (fun st=>s.ya.length - st.2.toNat) (by show _ - _<_;omega) ⟨0,by simp [optN],qar _⟩ (fun st hst=>by
   obtain ⟨i,rfl,hi⟩:=hst;by_cases a:i<s.ya.length
   ·have hn:=qa a;simp only [kd4,kan a,qe,qb];cases decide ((optN (s.ya.take i):Int)<=120) with
    | false=>exact ⟨.inr _,rfl,trivial⟩
    | true=>
     have h1:=c (i+1);have k:=kj3 (ns:=s.ya) a;rw [qe,kag,hn,qb,kak a (by omega),show w64 ((optN (s.ya.take i):Int)+((s.ya[i]).yc.length:Int))=(optN (s.ya.take (i+1)):Int) by rw [kdf];omega];exact ⟨_,rfl,⟨i+1,rfl,by omega⟩,by show s.ya.length - ((i+1:Nat):Int).toNat<s.ya.length - (i:Int).toNat;omega⟩
   ·obtain rfl:i=s.ya.length:=(by omega);exact ⟨.inr (optN (s.ya.take s.ya.length):Int),by simp only [kd4,kal,qf,qb],trivial⟩)
  rw [hv,qb];cases decide (v<=120) with
  | false=>exact ⟨false,rfl,fun h=>by cases h⟩
  | true=>
   rw [qe,j,qb,qe];rw [show ((300:Nat):Int)=300 from rfl] at f;rw [f,qb,qb];refine ⟨_,rfl,fun h=>⟨e,?_⟩⟩;have:=qb0 h;unfold cap at this;omega
 ·rw [qs (by omega),qe];exact ⟨false,rfl,fun h=>by cases h⟩
end
theorem k55 (t:Tm) (h:t.size<=1000):kbl t t=some 0:=by rw [krq t t h h,cmpT_eq0.2 rfl]
theorem k30 (L:List Tm) (hl:L.length<=100000) (a:∀ u∈L,u.size<=1000):kfe L L=some true:=by unfold kfe;rw [show ((L.length:Int) != (L.length:Int))=false by simp,qf];have h:kac (kc2 L L) fuel 0=some (.inl ()):=kmr (kc2 L L) L.length (fun k=>(k:Int)) _ (fun k hk=>by simp only [kc2,kan hk,qe,kag,qa hk,qb,k55 _ (a _ (qo hk)),kak hk (show L.length<=9223372036854775807 by omega)];rfl) (by simp only [kc2,kal,qf]);rw [h];rfl
end Go.Proofs.YtnlhjbnpjefjgaaGreatDoor
