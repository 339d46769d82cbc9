import Derived.Test.YtchjomeomabamaaGreatDoorPt
import Derived.Test.YtchjomeomabamaaGreatDoorDf
import Derived.Test.YtchjomeomabamaaGreatDoorZE
set_option linter.all false
namespace Go.Proofs.YtchjomeomabamaaGreatDoor
open Go Go.RowKit
theorem kabc (n:Nat) (x z:Va) (d:z.items=[]):kcl (n+1) x z=some (cmpV x z):=by
 show kg6 (kcl n) x z=_;rw [ksy];unfold kg6;by_cases h1:x.type<z.type;rw [qh h1,qp h1];rfl;rw [qg h1,ql h1,qd];by_cases a:z.type<x.type;rw [qh a,qp a];rfl;rw [qg a,ql a,qd];by_cases b:x.num<z.num;rw [qh b,qp b];rfl;rw [qg b,ql b,qd];by_cases c:z.num<x.num;rw [qh c,qp c];rfl;rw [qg c,ql c,qd,kz0];show (bif kgz x.text z.text then _ else bif kgz z.text x.text then _ else _)=_;cases f:kgz x.text z.text with
 | true=>rfl
 | false=>
  cases g:kgz z.text x.text with
  | true=>rfl
  | false=>
   simp only [qd,Bool.false_eq_true,if_false];cases hi:x.items with
   | nil=>
    have:kab (kbu x z (kcl n)) fuel 0=some (.inl ()):=(by rw [koh,kab];simp [kbu,hi]);rw [this,d];simp [kh0]
   | cons y l=>
    have:kab (kbu x z (kcl n)) fuel 0=some (.inr 1):=(by rw [koh,kab];have e:idx (y::l) 0=some y:=kac (y::l) 0;simp [kbu,hi,e,d]);rw [this,d];simp [kh0]
theorem kaa6 (n:Nat) (x:Va):kcl (n+1) x kgy=some (cmpV x kgy):=kabc n x kgy rfl
theorem k5d (n:Nat) (l:List Va):kb9 (n+1) l []=some (if l.length=0 then 0 else 1):=by
 show kbz (kaw n) (kb9 n) l []=_;have:kab (kaz l [] (kaw n)) fuel 0=some (.inl ()):=by rw [koh,kab];cases l <;> simp [kaz]
 unfold kbz;rw [this];cases l with
 | nil=>simp
 | cons y l=>
  have h1:((((y::l).length:Nat):Int) == (([]:List Va).length:Int))=false:=by rw [qa2,qbd,qb1];omega
  have a:decide ((((y::l).length:Nat):Int)<(([]:List Va).length:Int))=false:=qg (by rw [qbd,qb1];omega);simp only [qb,q9,h1,a,qd,kmi];rfl
theorem k9f (n:Nat) (x z:Va) (d:z.items=[]):kaw (n+2) x z=some (cmpV x z):=by
 show kco (kaw (n+1)) (kb9 (n+1)) x z=_;rw [ksy];unfold kco;have e:kh0 x.items []=if x.items.length=0 then 0 else 1:=by cases x.items <;> rfl
 have a:=k5d n x.items;rw [d,e,a];by_cases t0:x.type=z.type
 ·rw [show (x.type != z.type)=false by rw [qbc];exact t0,qd,ql (show ¬ x.type<z.type by omega),ql (show ¬ z.type<x.type by omega)];by_cases n0:x.num=z.num
  ·rw [show (x.num != z.num)=false by rw [qbc];exact n0,qd,ql (show ¬ x.num<z.num by omega),ql (show ¬ z.num<x.num by omega)];by_cases b:x.text=z.text;rw [b,show (z.text.toList == z.text.toList)=true from beq_self_eq_true _];simp only [qa9,qd,qb,kxq,Bool.false_eq_true,if_false]
   ·have c:(x.text.toList == z.text.toList)=false:=(by rw [qa2];exact fun h=>b (kti h));rw [c];simp only [Bool.not_false,qe,kmi,qb];show some (if kgz x.text z.text=true then (-1:Int) else 1)=_;cases f:kgz x.text z.text with
    | true=>rfl
    | false=>
     cases g:kgz z.text x.text with
     | true=>rfl
     | false=>exact absurd (k25 f g) b
  ·rw [show (x.num != z.num)=true by rw [bne_iff_ne];exact n0,qe,kmi];by_cases hl:x.num<z.num;rw [qh hl,qp hl];rfl
   ·rw [qg hl,ql hl,qp (show z.num<x.num by omega)];rfl
 ·rw [show (x.type != z.type)=true by rw [bne_iff_ne];exact t0,qe,kmi];by_cases hl:x.type<z.type;rw [qh hl,qp hl];rfl
  ·rw [qg hl,ql hl,qp (show z.type<x.type by omega)];rfl
theorem kaak (n:Nat) (x:Va):kaw (n+2) x kgy=some (cmpV x kgy):=k9f n x kgy rfl
theorem k6l (x:Va):kg0 x (Va.mk 0 0 ⟨#[]⟩ [])=some (eqV x kgy):=by unfold kg0;have:=kaa6 18446744073709551615 x;rw [<- koh] at this;show Option.bind (kcl fuel x kgy) _=_;rw [this];simp only [qb,eqV];by_cases h:cmpV x kgy=0 <;> simp [h]
theorem ktg (x:Va):kb8 x (Va.mk 0 0 ⟨#[]⟩ [])=some (eqV x kgy):=by unfold kb8;have:=kaak 18446744073709551614 x;show Option.bind (kaw fuel x kgy) _=_;rw [show fuel=18446744073709551614+2 from rfl,this];simp only [qb,eqV];by_cases h:cmpV x kgy=0 <;> simp [h]
def rkT (t:Int):Nat:=if t=7 then 3 else if t=5\/t=6 then 2 else 1
def inV (x:Va):Prop:=kl3 9223372036854775807 x/\kru x
theorem k7e {x:Va} (h:inV x):x.items.length<=9223372036854775807/\x.text.size<=9223372036854775807/\∀ y∈x.items,inV y:=by obtain ⟨l1,l2⟩:=kmz h.1;obtain ⟨s1,s2⟩:=k3r h.2;exact ⟨l1,s1,fun y hy=>⟨l2 y hy,s2 y hy⟩⟩
theorem k1c {k:Nat}:∀ {l:List Va},(∀ y∈l,depV y<=k)->kq8 l<=k
 | [],_=>qau _
 | y::l,h=>by simp only [kq8];exact Nat.max_le.2 ⟨h y (qn ..),k1c fun z a=>h z (qj _ a)⟩
theorem kyg {x:Va} {k:Nat} (h:∀ y∈x.items,depV y<=k):depV x<=k+1:=by
 cases x with
 | mk t n s l=>simp only [depV];exact Nat.succ_le_succ (k1c h)
theorem kpu {x:Va} (h:((x.items.length:Int) == 0)=true):depV x<=1:=by
 refine kyg fun y hy=>?_;have:x.items.length=0:=by have:=eq_of_beq h;omega
 rw [qaz this] at hy;cases hy
theorem k31:∀ n:Nat,(∀ x:Va,2*rkT x.type<=n->inV x->∃ c,ka7 n x=some c/\kap n x=some c/\(c=0->depV x<=rkT x.type)) /\
  (∀ (l:List Va) (t:Int),(t=2\/t=3)->3<=n->l.length<=9223372036854775807->(∀ x∈l,inV x)->∃ c,ki1 n l t=some c/\kea n l t=some c/\(c=0->∀ x∈l,depV x<=1)) /\
  (∀ l:List Va,5<=n->l.length<=9223372036854775807->(∀ x∈l,inV x)->∃ c,kk2 n l=some c/\kf7 n l=some c/\(c=0->∀ x∈l,depV x<=2))
 | 0=>⟨fun x h=>by unfold rkT at h;split at h <;> (try split at h) <;> omega,fun l t _ h=>by omega,fun l h=>by omega⟩
 | n+1=>by
  obtain ⟨ih1,ih2,ih3⟩:=k31 n;refine ⟨fun x s m=>?_,fun l t ht s hl wl=>?_,fun l s hl wl=>?_⟩
  ·show ∃ c,kb4 (ka7 n) (ki1 n) (kk2 n) x=some c/\kas (kap n) (kea n) (kf7 n) x=some c/\_;obtain ⟨lx,sx,wx⟩:=k7e m;have hS:=fun a b=>k5n x.text a b sx;have v:=fun a b=>k2f x.text a b sx;by_cases h0:x.type<1;exact ⟨3,by simp [kb4,h0],by simp [kas,h0],fun h=>absurd h (by decide)⟩;by_cases w:8<x.type;exact ⟨3,by simp [kb4,h0,w],by simp [kas,h0,w],fun h=>absurd h (by decide)⟩;have ht:x.type=1\/x.type=2\/x.type=3\/x.type=4\/x.type=5\/x.type=6\/x.type=7\/x.type=8:=(by omega);have y:∀ t,(t=2\/t=3)->rkT x.type=2->∃ c,ki1 n x.items t=some c/\kea n x.items t=some c/\(c=0->depV x<=2):=fun t h1 z=>(by obtain ⟨c,e1,e2,e3⟩:=ih2 x.items t h1 (by omega) lx wx;exact ⟨c,e1,e2,fun h=>kyg (e3 h)⟩);have A:rkT x.type=3->∃ c,kk2 n x.items=some c/\kf7 n x.items=some c/\(c=0->depV x<=3):=fun z=>(by obtain ⟨c,e1,e2,e3⟩:=ih3 x.items (by omega) lx wx;exact ⟨c,e1,e2,fun h=>kyg (e3 h)⟩);have hp:=kaek x.items;cases e:(x.text.toList == (⟨#[]⟩:BA).toList) <;> cases hm:(x.num == 0) <;> cases hl:((x.items.length:Int) == 0) <;> rw [hl] at hp <;>
    rcases ht with ht | ht | ht | ht | ht | ht | ht | ht <;>
    first
     | (refine ⟨4,?_,?_,fun h=>absurd h (by decide)⟩;rotate_left;(simp only [kas,ht,e,hm,hp,bne];simp);(simp only [kb4,kej,ht,e,hm,hl];simp))
     | (obtain ⟨c,e1,e2⟩:=kri x.num 0 1;refine ⟨c,?_,?_,fun _=>by rw [ht];exact kpu hl⟩;rotate_left;(simp only [kas,ht,e,hm,hp,bne];simp [e2]);(simp only [kb4,kej,ht,e,hm,hl];simp [e1]))
     | (obtain ⟨c,e1,e2⟩:=kri x.num (-1000000) 1000000;refine ⟨c,?_,?_,fun _=>by rw [ht];exact kpu hl⟩;rotate_left;(simp only [kas,ht,e,hm,hp,bne];simp [e2]);(simp only [kb4,kej,ht,e,hm,hl];simp [e1]))
     | (obtain ⟨c,e1,e2⟩:=kri x.num 0 255;refine ⟨c,?_,?_,fun _=>by rw [ht];exact kpu hl⟩;rotate_left;(simp only [kas,ht,e,hm,hp,bne];simp [e2]);(simp only [kb4,kej,ht,e,hm,hl];simp [e1]))
     | (obtain ⟨c,e1⟩:=hS 0 64;refine ⟨c,?_,?_,fun _=>by rw [ht];exact kpu hl⟩;rotate_left;(simp only [kas,ht,e,hm,hp,bne];simp [v,e1]);(simp only [kb4,kej,ht,e,hm,hl];simp [e1]))
     | (obtain ⟨c,e1⟩:=hS 1 40;refine ⟨c,?_,?_,fun _=>by rw [ht];exact kpu hl⟩;rotate_left;(simp only [kas,ht,e,hm,hp,bne];simp [v,e1]);(simp only [kb4,kej,ht,e,hm,hl];simp [e1]))
     | (obtain ⟨c,e1,e2,e3⟩:=y 2 (.inl rfl) (by rw [ht];rfl);refine ⟨c,?_,?_,fun h=>by rw [ht];exact e3 h⟩;rotate_left;(simp only [kas,ht,e,hm,hp,bne];simp [e2]);(simp only [kb4,kej,ht,e,hm,hl];simp [e1]))
     | (obtain ⟨c,e1,e2,e3⟩:=y 3 (.inr rfl) (by rw [ht];rfl);refine ⟨c,?_,?_,fun h=>by rw [ht];exact e3 h⟩;rotate_left;(simp only [kas,ht,e,hm,hp,bne];simp [e2]);(simp only [kb4,kej,ht,e,hm,hl];simp [e1]))
     | (obtain ⟨c,e1,e2,e3⟩:=A (by rw [ht];rfl);refine ⟨c,?_,?_,fun h=>by rw [ht];exact e3 h⟩;rotate_left;(simp only [kas,ht,e,hm,hp,bne];simp [e2]);(simp only [kb4,kej,ht,e,hm,hl];simp [e1]))
  ·show ∃ c,khw (ka7 n) (ki1 n) (kk2 n) l t=some c/\kde (kap n) (kea n) (kf7 n) l t=some c/\_;by_cases d:(16:Int)<(l.length:Int);exact ⟨2,by simp only [khw,qh d,qe],by simp only [kde,qh d,qe],fun h=>absurd h (by decide)⟩
   ·have o:rkT t=1:=(by rcases ht with rfl | rfl <;> rfl);have hst:∀ (i:Nat) (hi:i<l.length),(ka4 l t (ka7 n) (i:Int)=some (.inl ((i+1:Nat):Int))/\ka9 l t (kap n) (i:Int)=some (.inl ((i+1:Nat):Int))/\depV l[i]<=1) \/
      ∃ c,c≠0/\ka4 l t (ka7 n) (i:Int)=some (.inr (.inr c))/\ka9 l t (kap n) (i:Int)=some (.inr (.inr c)):=fun i hi=>by
     have e1:l[i]?=some l[i]:=qa hi;have b1:decide ((i:Int)<(l.length:Int))=true:=qh (by omega);have p:=kbh i;cases ht:(l[i].type != t) with
     | true=>exact .inr ⟨3,by decide,by simp only [ka4,b1,kac,e1,ht,qe,qb],by simp only [ka9,b1,kac,e1,ht,qe,qb]⟩
     | false=>
      have g:l[i].type=t:=(by rwa [qbc] at ht);obtain ⟨c,k1,k2,k3⟩:=ih1 l[i] (by rw [g,o];omega) (wl _ (qi hi));rw [g,o] at k3;cases hc:(c != 0) with
      | true=>exact .inr ⟨c,by simpa using hc,by simp only [ka4,b1,kac,e1,ht,k1,hc,qe,qd,qb],by simp only [ka9,b1,kac,e1,ht,k2,hc,qe,qd,qb]⟩
      | false=>exact .inl ⟨by simp only [ka4,b1,kac,e1,ht,k1,hc,p,qe,qd,qb],by simp only [ka9,b1,kac,e1,ht,k2,hc,p,qe,qd,qb],k3 (by rwa [qbc] at hc)⟩
    obtain ⟨r,e1,e2⟩:=koe (ka4 l t (ka7 n)) (ka9 l t (kap n)) l.length (fun i=>(i:Int)) (fun i hi=>by
     rcases hst i hi with ⟨a1,a2,_⟩ | ⟨c,_,a1,a2⟩;exact .inl ⟨a1,a2⟩
     ·exact .inr ⟨_,a1,a2⟩) (.inl ()) (by simp [ka4]) (by simp [ka9])
    have e1':kab (ka4 l t (ka7 n)) fuel 0=some r:=(by simpa using e1);have e2':kab (ka9 l t (kap n)) fuel 0=some r:=(by simpa using e2);have j:∀ c:Int,r = .inr c->c≠0:=fun c hr=>by
     obtain ⟨r2,r3,f1,f2,f3⟩:=kkb (step:=ka4 l t (ka7 n)) (step':=ka4 l t (ka7 n)) l.length (by omega) (fun i=>(i:Int)) (fun i=>(i:Int)) (fun r r'=>∀ c,r = .inr c->c≠0) (fun i hi=>by
      rcases hst i hi with ⟨a1,a2,_⟩ | ⟨c,h0,a1,a2⟩;exact .inl ⟨a1,a1⟩
      ·exact .inr ⟨_,_,a1,a1,fun c' h=>by cases h;exact h0⟩) ⟨.inl (), .inl (),by simp [ka4],by simp [ka4],fun c h=>by cases h⟩
     have f1':kab (ka4 l t (ka7 n)) fuel 0=some r2:=(by simpa using f1);rw [e1'] at f1';cases f1';exact f3 c hr
    refine ⟨Sum.elim (fun _=>0) id r,?_,?_,fun h0=>?_⟩;simp only [khw,qg d,qd,e1',qb];cases r <;> rfl;simp only [kde,qg d,qd,e2',qb];cases r <;> rfl
    ·cases r with
     | inr c=>exact absurd h0 (j c rfl)
     | inl u=>
      intro x m;obtain ⟨i,hi,rfl⟩:=qae.1 m;have f:=kp3 (step:=ka4 l t (ka7 n)) l.length (fun i=>(i:Int)) (.inl u) (fun i hi=>by
       rcases hst i hi with ⟨a1,a2,_⟩ | ⟨c,_,a1,a2⟩;exact .inl a1
       ·exact .inr ⟨_,a1,fun h=>by cases h⟩) fuel 0 e1' i (qau _) hi
      rcases hst i hi with ⟨_,_,h⟩ | ⟨c,_,a1,_⟩;exact h
      ·rw [a1] at f;cases f
  ·show ∃ c,kj7 (ka7 n) (ki1 n) (kk2 n) l=some c/\ke7 (kap n) (kea n) (kf7 n) l=some c/\_;by_cases d:(8:Int)<(l.length:Int);exact ⟨2,by simp only [kj7,qh d,qe],by simp only [ke7,qh d,qe],fun h=>absurd h (by decide)⟩
   ·have hst:∀ (i:Nat) (hi:i<l.length),(kbo l (ka7 n) (i:Int)=some (.inl ((i+1:Nat):Int))/\kbe l (kap n) (i:Int)=some (.inl ((i+1:Nat):Int))/\depV l[i]<=2) \/
      ∃ c,c≠0/\kbo l (ka7 n) (i:Int)=some (.inr (.inr c))/\kbe l (kap n) (i:Int)=some (.inr (.inr c)):=fun i hi=>by
     have e1:l[i]?=some l[i]:=qa hi;have e0:idx l 0=some (l[0]'(by omega)):=(by rw [show (0:Int)=((0:Nat):Int) from rfl,kac,qa]);have b1:decide ((i:Int)<(l.length:Int))=true:=qh (by omega);have p:=kbh i;cases ht:(l[i].type != 6) with
     | true=>exact .inr ⟨3,by decide,by simp only [kbo,b1,kac,e1,ht,qe,qb],by simp only [kbe,b1,kac,e1,ht,qe,qb]⟩
     | false=>
      have g:l[i].type=6:=(by rwa [qbc] at ht);obtain ⟨c,k1,k2,k3⟩:=ih1 l[i] (by rw [g];show 2*2<=n;omega) (wl _ (qi hi));rw [g] at k3;obtain ⟨q,k⟩:∃ q,(bif decide ((l[i].items.length:Int)<1) then some true else bif decide (8<(l[i].items.length:Int)) then some true else (some ((l[i].items.length:Int) != ((l[0]'(by omega)).items.length:Int)):Option Bool))=some q:=(by cases decide ((l[i].items.length:Int)<1) <;> cases decide (8<(l[i].items.length:Int)) <;> exact ⟨_,rfl⟩);cases q with
      | true=>exact .inr ⟨2,by decide,by simp only [kbo,b1,kac,e1,e0,ht,k,qe,qd,qb],by simp only [kbe,b1,kac,e1,e0,ht,k,qe,qd,qb]⟩
      | false=>
       cases hc:(c != 0) with
       | true=>exact .inr ⟨c,by simpa using hc,by simp only [kbo,b1,kac,e1,e0,ht,k,k1,hc,qe,qd,qb],by simp only [kbe,b1,kac,e1,e0,ht,k,k2,hc,qe,qd,qb]⟩
       | false=>exact .inl ⟨by simp only [kbo,b1,kac,e1,e0,ht,k,k1,hc,p,qe,qd,qb],by simp only [kbe,b1,kac,e1,e0,ht,k,k2,hc,p,qe,qd,qb],k3 (by rwa [qbc] at hc)⟩
    obtain ⟨r,e1,e2⟩:=koe (kbo l (ka7 n)) (kbe l (kap n)) l.length (fun i=>(i:Int)) (fun i hi=>by
     rcases hst i hi with ⟨a1,a2,_⟩ | ⟨c,_,a1,a2⟩;exact .inl ⟨a1,a2⟩
     ·exact .inr ⟨_,a1,a2⟩) (.inl ()) (by simp [kbo]) (by simp [kbe])
    have e1':kab (kbo l (ka7 n)) fuel 0=some r:=(by simpa using e1);have e2':kab (kbe l (kap n)) fuel 0=some r:=(by simpa using e2);have j:∀ c:Int,r = .inr c->c≠0:=fun c hr=>by
     obtain ⟨r2,r3,f1,f2,f3⟩:=kkb (step:=kbo l (ka7 n)) (step':=kbo l (ka7 n)) l.length (by omega) (fun i=>(i:Int)) (fun i=>(i:Int)) (fun r r'=>∀ c,r = .inr c->c≠0) (fun i hi=>by
      rcases hst i hi with ⟨a1,a2,_⟩ | ⟨c,h0,a1,a2⟩;exact .inl ⟨a1,a1⟩
      ·exact .inr ⟨_,_,a1,a1,fun c' h=>by cases h;exact h0⟩) ⟨.inl (), .inl (),by simp [kbo],by simp [kbo],fun c h=>by cases h⟩
     have f1':kab (kbo l (ka7 n)) fuel 0=some r2:=(by simpa using f1);rw [e1'] at f1';cases f1';exact f3 c hr
    refine ⟨Sum.elim (fun _=>0) id r,?_,?_,fun h0=>?_⟩;simp only [kj7,qg d,qd,e1',qb];cases r <;> rfl;simp only [ke7,qg d,qd,e2',qb];cases r <;> rfl
    ·cases r with
     | inr c=>exact absurd h0 (j c rfl)
     | inl u=>
      intro x m;obtain ⟨i,hi,rfl⟩:=qae.1 m;have f:=kp3 (step:=kbo l (ka7 n)) l.length (fun i=>(i:Int)) (.inl u) (fun i hi=>by
       rcases hst i hi with ⟨a1,a2,_⟩ | ⟨c,_,a1,a2⟩;exact .inl a1
       ·exact .inr ⟨_,a1,fun h=>by cases h⟩) fuel 0 e1' i (qau _) hi
      rcases hst i hi with ⟨_,_,h⟩ | ⟨c,_,a1,_⟩;exact h
      ·rw [a1] at f;cases f
theorem k8f (t:Int):rkT t<=3:=by unfold rkT;split <;> (try split) <;> omega
theorem k4m {x:Va} (a:inV x):∃ c,ka7 fuel x=some c/\kap fuel x=some c/\(c=0->okV x):=by have b:2*rkT x.type<=fuel:=qav (Nat.mul_le_mul_left 2 (k8f x.type)) (by decide);obtain ⟨c,h1,d,e⟩:=(k31 fuel).1 x b a;exact ⟨c,h1,d,fun h=>⟨by have:=e h;have:=k8f x.type;omega,a.1⟩⟩
def kxs (r:Ru):Prop:=r.args.length<=9223372036854775807/\inV r.const
theorem k1z {x:Va} (h:eqV x kgy=true):x=kgy:=kac1 x kgy (by simpa [eqV] using h)
theorem kaf1 (l:La) (r:Ru) (hr:kxs r):∃ c,kj5 l r=some c/\kdi l r=some c:=by obtain ⟨c,h1,a,_⟩:=k4m hr.2;exact kaat l r hr.1 (ktg _) (k6l _) ⟨c,h1,a⟩
structure GoodR (l:La) (r:Ru):Prop where
 sym0:0<=r.symbol
 sym1:r.symbol<(l.symbols.length:Int)
 kind:r.kind=1\/r.kind=2\/r.kind=3
 noargs:r.kind≠3->r.args=[]
 args:∀ a∈r.args,0<=a/\a<(l.symbols.length:Int)
 few:r.args.length<=5
 fine:okV r.const
theorem kie {α:Type} {b:Bool} {x y:Option α} {r:α} (h:(bif b then x else y)=some r):(b=true/\x=some r)\/(b=false/\y=some r):=by
 cases b;exact .inr ⟨rfl,h⟩
 ·exact .inl ⟨rfl,h⟩
theorem kig {α β:Type} {E:Option α} {K:α->Option β} {r:β} (h:Option.bind E K=some r):∃ v,E=some v/\K v=some r:=qm.1 h
theorem k2i:opNames.all (fun n=>(kcr n).all fun o=>decide (o.1.yb.length<=5))=true:=by kernel_rfl
theorem k9c {s:BA} {o:Sab×Bool} (h:kcr s=some o) (ho:o.2=true):o.1.yb.length<=5:=by
 by_cases a:s∈opNames;have:=qs.1 k2i s a;rw [h] at this;simpa using this
 ·rw [(kze s a).2] at h;cases h;cases ho
theorem k6t {l:La} {r:Ru} (ha:r.args.length<=9223372036854775807) (h:kdr l r=some 0):r.args.length<=5/\∀ a∈r.args,0<=a/\a<(l.symbols.length:Int):=by
 unfold kdr at h;obtain ⟨o,h1,h⟩:=kig h;rcases kie h with ⟨_,h⟩ | ⟨g,h⟩;cases h;rcases kie h with ⟨_,h⟩ | ⟨j,h⟩;cases h;have f:r.args.length=o.1.yb.length:=by have:=qbc.1 j;omega
 have q:=k9c h1 (by simpa using g);obtain ⟨v,k,h⟩:=kig h;refine ⟨by omega,fun a d=>?_⟩;have hst:∀ i,i<r.args.length->ka2 l r o (i:Int)=some (.inl ((i+1:Nat):Int))/\(∀ x,r.args[i]?=some x->0<=x/\x<(l.symbols.length:Int))\/∃ c,c≠0/\ka2 l r o (i:Int)=some (.inr (.inr c)):=fun i hi=>by
  have e1:r.args[i]?=some r.args[i]:=qa hi;have e:i<o.1.yb.length:=by omega
  have e2:o.1.yb[i]?=some o.1.yb[i]:=qa e;have b1:decide ((i:Int)<(r.args.length:Int))=true:=qh (by omega);simp only [ka2,b1,qe,kac,e1,e2,qb,kbh i];by_cases h0:0<=r.args[i]
  ·by_cases h1:r.args[i]<(l.symbols.length:Int)
   ·obtain ⟨x,m,_⟩:=kni _ _ h0 h1;rw [qg (show ¬ r.args[i]<0 by omega),qg (show ¬ (l.symbols.length:Int)<=r.args[i] by omega)];simp only [qd,qb,m];cases x.type != o.1.yb[i] with
    | true=>exact .inr ⟨3,by decide,rfl⟩
    | false=>exact .inl ⟨rfl,fun y hy=>by cases hy;exact ⟨h0,h1⟩⟩
   ·rw [qg (show ¬ r.args[i]<0 by omega),qh (show (l.symbols.length:Int)<=r.args[i] by omega)];exact .inr ⟨1,by decide,rfl⟩
  ·rw [qh (show r.args[i]<0 by omega)];exact .inr ⟨1,by decide,rfl⟩
 obtain ⟨i,hi,rfl⟩:=qae.1 d;have hv:∀ c:Int,c≠0->(.inr c:Unit ⊕ Int)≠v:=fun c hc p=>by subst p;cases h;exact hc rfl
 have b:=kp3 (step:=ka2 l r o) r.args.length (fun i=>(i:Int)) v (fun i hi=>by
  rcases hst i hi with ⟨a1,_⟩ | ⟨c,hc,a1⟩;exact .inl a1
  ·exact .inr ⟨_,a1,hv c hc⟩) fuel 0 k i (qau _) hi
 rcases hst i hi with ⟨_,a2⟩ | ⟨c,_,a1⟩;exact a2 _ (qa hi)
 ·rw [a1] at b;cases b
theorem len0 {α:Type} {xs:List α} (h:((xs.length:Int) == 0)=true):xs=[]:=qaz (by have:=eq_of_beq h;omega)
theorem k8x {l:La} {r:Ru} (hr:kxs r) (h:kdi l r=some 0):GoodR l r:=by
 unfold kdi at h;obtain ⟨b1,h1,h⟩:=kig h;rcases kie h with ⟨_,h⟩ | ⟨k,h⟩;cases h;subst k;have hs:0<=r.symbol/\r.symbol<(l.symbols.length:Int):=by
  rcases kie h1 with ⟨_,h1⟩ | ⟨q,h1⟩;cases h1
  ·have q:=qbt q;have q2:=qbt (qaj h1);omega
 obtain ⟨b2,f,h⟩:=kig h;rcases kie h with ⟨_,h⟩ | ⟨m,h⟩;cases h;subst m;rcases kie f with ⟨_,f⟩ | ⟨q1,f⟩;cases f;rcases kie f with ⟨_,f⟩ | ⟨q2,f⟩;cases f;have q1:=qbt q1;have q2:=qbt q2;obtain ⟨z,g,n⟩:=kig f;have o:z=true:=by
  cases z with
  | true=>rfl
  | false=>cases n
 subst o;obtain ⟨x,p,h⟩:=kig h;unfold kez at g;rw [ktg,qb] at g;have hk:r.kind=1\/r.kind=2\/r.kind=3:=by omega
 have okz:eqV r.const kgy=true->okV r.const:=fun h=>by rw [k1z h];exact kwl
 rcases hk with hk | hk | hk
 ·have c1:(r.kind == 1)=true:=by rw [hk];rfl
  rw [c1,qe] at g;obtain ⟨b,d,i⟩:=kig g;cases i;rcases kie d with ⟨e1,d⟩ | ⟨_,d⟩
  ·rcases kie d with ⟨e2,d⟩ | ⟨_,d⟩;have ha:=len0 (qaj d);exact ⟨hs.1,hs.2, .inl hk,fun _=>ha,by rw [ha];intro a h;(cases h),by rw [ha];exact qau _,okz e1⟩
   ·cases d
  ·cases d
 ·have c1:(r.kind == 1)=false:=by rw [hk];rfl
  have c2:(r.kind == 2)=true:=by rw [hk];rfl
  rw [c1,qd,c2,qe] at g;rw [c1,qd,c2,qe] at h;obtain ⟨b,d,i⟩:=kig g;cases i;obtain ⟨c,g1,g2⟩:=kig h;have hc:c=0:=by
   rcases kie g2 with ⟨e,g2⟩ | ⟨e,g2⟩;cases g2;rfl
   ·exact qbc.1 e
  obtain ⟨c',f1,f2,f3⟩:=k4m hr.2;have j:c'=0:=by rw [f2] at g1;cases g1;exact hc
  rcases kie d with ⟨e1,d⟩ | ⟨_,d⟩
  ·rcases kie d with ⟨e2,d⟩ | ⟨_,d⟩;have ha:=len0 (qaj d);exact ⟨hs.1,hs.2, .inr (.inl hk),fun _=>ha,by rw [ha];intro a h;(cases h),by rw [ha];exact qau _,f3 j⟩
   ·cases d
  ·cases d
 ·have c1:(r.kind == 1)=false:=by rw [hk];rfl
  have c2:(r.kind == 2)=false:=by rw [hk];rfl
  rw [c1,qd,c2,qd] at g;rw [c1,qd,c2,qd] at h;obtain ⟨b,d,i⟩:=kig g;cases i;obtain ⟨c,g1,g2⟩:=kig h;cases g2;obtain ⟨a1,a2⟩:=k6t hr.1 g1;rcases kie d with ⟨e1,d⟩ | ⟨_,d⟩;exact ⟨hs.1,hs.2, .inr (.inr hk),fun h=>absurd hk h,a2,a1,okz (qaj d)⟩
  ·cases d
theorem GoodR.fineR {l:La} {r:Ru} (h:GoodR l r) (hr:kxs r):fineR r:=⟨by have:=h.few;omega,h.fine,hr.2.2⟩
structure kq9 (l:La):Prop where
 name:l.name.size<=9223372036854775807
 inputs:l.inputs.length<=9223372036854775807
 symbols:l.symbols.length<=9223372036854775807
 rules:l.rules.length<=9223372036854775807
 names:∀ x∈l.symbols,x.name.size<=9223372036854775807
 wide:∀ r∈l.rules,kxs r
structure kns (l:La):Prop where
 inputs:l.inputs.length<=4
 sym1:1<=l.symbols.length
 sym16:l.symbols.length<=16
 rules:l.rules.length<=96
 good:∀ r∈l.rules,GoodR l r
theorem kadk (l:La) (h:kq9 l):∃ r,kab (kbt l) fuel 0=some r/\kab (kax l) fuel 0=some r/\(r = .inl ()->∀ x∈l.rules,GoodR l x)/\(∀ e,r = .inr e->e≠0):=by
 have hl:=h.rules;have w:∀ n,n<=l.rules.length->(∃ i,i<n/\∃ e,e≠0/\(∀ j,j<i->kbt l (j:Int)=some (.inl ((j+1:Nat):Int))/\kax l (j:Int)=some (.inl ((j+1:Nat):Int)))/\kbt l (i:Int)=some (.inr (.inr e))/\kax l (i:Int)=some (.inr (.inr e))) \/
   ((∀ j,j<n->kbt l (j:Int)=some (.inl ((j+1:Nat):Int))/\kax l (j:Int)=some (.inl ((j+1:Nat):Int)))/\∀ j (a:j<l.rules.length),j<n->GoodR l l.rules[j]):=by
  intro n
  induction n with
  | zero=>intro _;exact .inr ⟨fun j a=>by omega,fun j _ a=>by omega⟩
  | succ n ih=>
   intro hn;rcases ih (by omega) with ⟨i,hi,e,o,p⟩ | ⟨g1,g2⟩;exact .inl ⟨i,by omega,e,o,p⟩
   ·have hi:n<l.rules.length:=(by omega);have e1:l.rules[n]?=some l.rules[n]:=qa hi;have b1:decide ((n:Int)<(l.rules.length:Int))=true:=qh (by omega);have q:=h.wide _ (qi hi);obtain ⟨c,c1,c2⟩:=kaf1 l l.rules[n] q;by_cases hc:c=0
    ·subst hc;have v:=k8x q c2;have m:∀ j (a:j<l.rules.length),j<=n->fineR l.rules[j]:=fun j a g=>by
      have s:=h.wide _ (qi a);by_cases d:j=n;subst d;exact v.fineR q
      ·exact (g2 j a (by omega)).fineR s
     obtain ⟨b,d1,d2⟩:=kaa5 l n hi hl m;cases b with
     | true=>
      refine .inl ⟨n,by omega,6,by decide,g1,?_,?_⟩;simp only [kbt,b1,qe,kac,e1,qb,c1,k05 l.rules n,d1];rfl
      ·simp only [kax,b1,qe,kac,e1,qb,c2,d2];rfl
     | false=>
      refine .inr ⟨fun j a=>?_,fun j a g=>?_⟩
      ·by_cases g:j=n
       ·subst g;constructor;simp only [kbt,b1,qe,kac,e1,qb,c1,k05 l.rules j,d1,kbh j];rfl
        ·simp only [kax,b1,qe,kac,e1,qb,c2,d2,kbh j];rfl
       ·exact g1 j (by omega)
      ·by_cases d:j=n;subst d;exact v
       ·exact g2 j a (by omega)
    ·refine .inl ⟨n,by omega,c,hc,g1,?_,?_⟩;simp only [kbt,b1,qe,kac,e1,qb,c1,show (c != 0)=true by simpa using hc]
     ·simp only [kax,b1,qe,kac,e1,qb,c2,show (c != 0)=true by simpa using hc]
 have f:kbt l (l.rules.length:Int)=some (.inr (.inl ()))/\kax l (l.rules.length:Int)=some (.inr (.inl ())):=by have b1:decide ((l.rules.length:Int)<(l.rules.length:Int))=false:=qg (by omega);simp only [kbt,kax,b1,qd,and_self]
 rcases w l.rules.length (qx _) with ⟨i,hi,e,o,a,a1,a2⟩ | ⟨g1,g2⟩;obtain ⟨r,r',h1,t,rfl,u⟩:=kkb (step:=kbt l) (step':=kax l) i (by omega) (fun i=>(i:Int)) (fun i=>(i:Int)) (fun r r'=>r=r'/\r = .inr e) (fun j k => .inl (a j k)) ⟨_,_,a1,a2,rfl,rfl⟩;subst u;exact ⟨_,by simpa using h1,by simpa using t,(fun h=>by cases h),fun e' h=>by cases h;exact o⟩
 ·obtain ⟨r,r',h1,t,rfl,u⟩:=kkb (step:=kbt l) (step':=kax l) l.rules.length (by omega) (fun i=>(i:Int)) (fun i=>(i:Int)) (fun r r'=>r=r'/\r = .inl ()) (fun j k => .inl (g1 j k)) ⟨_,_,f.1,f.2,rfl,rfl⟩;subst u;refine ⟨_,by simpa using h1,by simpa using t,fun _ x p=>?_,fun e' h=>by cases h⟩;obtain ⟨i,hi,rfl⟩:=qae.1 p;exact g2 i hi hi
theorem k6v (l:La) (h:kq9 l):∃ c,kio l=some c/\kbv l=some c/\(c=0->kns l):=by
 obtain ⟨b,n1,n2⟩:=kxb l.name h.name;obtain ⟨r1,i1,i2,i3⟩:=k3i l h.inputs;obtain ⟨r2,s1,s2,s3⟩:=k13 l h.symbols h.names;obtain ⟨r3,t1,t2,t3,t4⟩:=kadk l h;have a:∀ c:Int,c≠0->(c=0->kns l):=fun c hc h=>absurd h hc;unfold kio kbv;rw [n1,n2];simp only [qb];cases b with
 | false=>exact ⟨5,rfl,rfl,a 5 (by decide)⟩
 | true=>
  simp only [qa9,qd];cases f:decide (4<(l.inputs.length:Int)) with
  | true=>exact ⟨2,rfl,rfl,a 2 (by decide)⟩
  | false=>
   have f:=qbt f;simp only [qd,i1,i2,qb];cases r1 with
   | inr e=>exact ⟨e,rfl,rfl,a e (i3 e rfl)⟩
   | inl u=>
    simp only [q9];have hc:(bif decide ((l.symbols.length:Int)<1) then some true else some (decide (16<(l.symbols.length:Int))):Option Bool)=some (decide ((l.symbols.length:Int)<1) || decide (16<(l.symbols.length:Int))):=(by cases decide ((l.symbols.length:Int)<1) <;> rfl);rw [hc,qb,qb];cases d:decide ((l.symbols.length:Int)<1) || decide (16<(l.symbols.length:Int)) with
    | true=>exact ⟨2,rfl,rfl,a 2 (by decide)⟩
    | false=>
     rw [Bool.or_eq_false_iff] at d;have hs1:=qbt d.1;have i:=qbt d.2;simp only [qd,s1,s2,qb];cases r2 with
     | inr e=>exact ⟨e,rfl,rfl,a e (s3 e rfl)⟩
     | inl u=>
      simp only [q9];cases g:decide (96<(l.rules.length:Int)) with
      | true=>exact ⟨2,rfl,rfl,a 2 (by decide)⟩
      | false=>
       have g:=qbt g;simp only [qd,t1,t2,qb];cases r3 with
       | inr e=>exact ⟨e,rfl,rfl,a e (t4 e rfl)⟩
       | inl u=>exact ⟨0,rfl,rfl,fun _=>⟨by omega,by omega,by omega,by omega,t3 rfl⟩⟩
set_option maxRecDepth 100000
def kdy (m s:Nat):Int:=if s<=m then (m:Int) - (s:Int) else -1
theorem kke {l:List Tm} {i:Nat} (h:i<l.length):Tm.sizeL (l.take (i+1))=Tm.sizeL (l.take i)+l[i].size:=by rw [qac h,Tm.sizeL_snoc]
theorem kis (l:List Tm) (i:Nat):i<=l.length->i<=Tm.sizeL (l.take i)/\Tm.sizeL (l.take i)<=Tm.sizeL l:=by
 intro hi
 induction i with
 | zero=>exact ⟨qau _,by simp [Tm.sizeL]⟩
 | succ i ih=>
  have h1:=ih (by omega);have c:=kke (l:=l) (i:=i) (by omega);have d:=Tm.size_pos l[i];refine ⟨by omega,?_⟩;have:Tm.sizeL l=Tm.sizeL (l.take (i+1))+Tm.sizeL (l.drop (i+1)):=by
   have gen:∀ a b:List Tm,Tm.sizeL (a++b)=Tm.sizeL a+Tm.sizeL b:=fun a b=>by
    induction a with
    | nil=>simp [Tm.sizeL]
    | cons x a ih=>simp only [qbp,Tm.sizeL,ih];omega
   rw [<- gen,List.take_append_drop]
  omega
theorem ktv:∀ (n:Nat) (t:Tm) (m:Nat),m<=10000->m<n->kdj n t (m:Int)=some (kdy m t.size)/\kh3 n t (m:Int)=some (kdy m t.size)
 | 0,t,m,_,h=>by omega
 | n+1,t,m,hm,hn=>by
  show kgu (kdj n) t (m:Int)=_/\kkj (kh3 n) t (m:Int)=_;obtain ⟨r0,l⟩:=t;have f:(Tm.mk r0 l).size=Tm.sizeL l+1:=rfl;have a:w64 ((m:Int) - 1)=kdy m (1+Tm.sizeL (l.take 0)):=by rw [kgv];simp only [List.take_zero,Tm.sizeL,kdy];split <;> omega
  obtain ⟨r,r',h1,o,p,k⟩:=kkb (step:=khs (Tm.mk r0 l) (kh3 n)) (step':=kdc (Tm.mk r0 l) (kdj n)) (min l.length m) (by omega)
   (fun i=>(kdy m (1+Tm.sizeL (l.take i)),(i:Int))) (fun i=>(kdy m (1+Tm.sizeL (l.take i)),(i:Int))) (fun r r'=>Sum.elim id id r=kdy m (Tm.sizeL l+1)/\r'=kdy m (Tm.sizeL l+1)) (fun i hi=>by
   have c:i<l.length:=(by omega);have e1:(Tm.mk r0 l).args[i]?=some l[i]:=qa c;have b1:decide ((i:Int)<((Tm.mk r0 l).args.length:Int))=true:=qh (by show (i:Int)<(l.length:Int);omega);have e:=kis l i (by omega);simp only [khs,kdc,b1,qe,qb,kac,e1];by_cases hp:1+Tm.sizeL (l.take i)<=m
   ·have hv:kdy m (1+Tm.sizeL (l.take i))=((m - (1+Tm.sizeL (l.take i)):Nat):Int):=(by unfold kdy;rw [qp hp];omega);obtain ⟨q1,q2⟩:=ktv n l[i] (m - (1+Tm.sizeL (l.take i))) (by omega) (by omega);have d:kdy (m - (1+Tm.sizeL (l.take i))) l[i].size=kdy m (1+Tm.sizeL (l.take (i+1))):=(by rw [kke c];unfold kdy;split <;> split <;> omega);rw [hv,qh (show (0:Int)<=((m - (1+Tm.sizeL (l.take i)):Nat):Int) by omega),qg (show ¬ ((m - (1+Tm.sizeL (l.take i)):Nat):Int)<0 by omega)];simp only [qe,qd,q1,q2,qb,d,kbh i]
    first | exact .inl ⟨rfl,rfl⟩ | exact .inl ⟨trivial,trivial⟩
   ·have hv:kdy m (1+Tm.sizeL (l.take i)) = -1:=(by unfold kdy;rw [ql hp]);have hf:kdy m (Tm.sizeL l+1) = -1:=(by unfold kdy;rw [ql (by omega)]);rw [hv,hf];exact .inr ⟨_,_,rfl,rfl,rfl,rfl⟩) (by
   have e:=kis l (min l.length m) (by omega);by_cases q:l.length<=m;have b:min l.length m=l.length:=(by omega);have b1:decide ((l.length:Int)<((Tm.mk r0 l).args.length:Int))=false:=qg (by show ¬ (l.length:Int)<(l.length:Int);omega);have hf:kdy m (1+Tm.sizeL l)=kdy m (Tm.sizeL l+1):=(by rw [Nat.add_comm]);simp only [b,khs,kdc,b1,qd,qb,qal,hf];exact ⟨_,_,rfl,rfl,rfl,rfl⟩
   ·have b:min l.length m=m:=(by omega);rw [b] at e;have b1:decide ((m:Int)<((Tm.mk r0 l).args.length:Int))=true:=qh (by show (m:Int)<(l.length:Int);omega);have c:m<l.length:=(by omega);have e1:(Tm.mk r0 l).args[m]?=some l[m]:=qa c;have hv:kdy m (1+Tm.sizeL (l.take m)) = -1:=(by unfold kdy;rw [ql (by omega)]);have hf:kdy m (Tm.sizeL l+1) = -1:=(by unfold kdy;rw [ql (by omega)]);simp only [b,khs,kdc,b1,qe,qb,kac,e1,hv,hf];exact ⟨_,_,rfl,rfl,rfl,rfl⟩)
  have g:kab (khs (Tm.mk r0 l) (kh3 n)) fuel (w64 ((m:Int) - 1),0)=some r:=by rw [a];simpa using h1
  have j:kab (kdc (Tm.mk r0 l) (kdj n)) fuel (w64 ((m:Int) - 1),0)=some r':=by rw [a];simpa using o
  unfold kgu kkj;rw [g,j,f,<- k];refine ⟨rfl,?_⟩;rw [k,<- p];cases r <;> rfl
theorem khg (t:Tm):Tm.sizeL t.args+1=t.size:=by cases t;rfl
theorem kh7 (l:List Tm):l.length<=Tm.sizeL l:=by have:=(kis l l.length (qx _)).1;rw [qal] at this;exact this
theorem k3k {l:List Tm} {i:Nat} (h:i<l.length):Tm.depthL (l.take (i+1))=max (Tm.depthL (l.take i)) l[i].depth:=by rw [qac h,Tm.depthL_snoc]
theorem k0c (t:Tm):t.depth<=t.size:=by
 refine Tm.ind (P:=fun t=>t.depth<=t.size) (fun r l ih=>?_) t;show Tm.depthL l+1<=Tm.sizeL l+1;have:∀ l:List Tm,(∀ t∈l,t.depth<=t.size)->Tm.depthL l<=Tm.sizeL l:=fun l=>by
  induction l with
  | nil=>exact fun _=>qx _
  | cons x l ih=>
   intro h;have h1:=h x (qn ..);have a:=ih fun t ht=>h t (qj _ ht);show max x.depth (Tm.depthL l)<=x.size+Tm.sizeL l;omega
 have:=this l ih;omega
theorem k2q:∀ (n:Nat) (t:Tm),t.size<=1000->t.size<=n->kc9 n t=some (t.depth:Int)
 | 0,t,_,h=>by have:=Tm.size_pos t;omega
 | n+1,t,ht,hn=>by
  show kge (kc9 n) t=_;obtain ⟨r0,l⟩:=t;have e:(Tm.mk r0 l).size=Tm.sizeL l+1:=rfl;have d:=kh7 l;have hl:=kin (kd6 (Tm.mk r0 l) (kc9 n)) l.length (fun i=>((Tm.depthL (l.take i):Int),(i:Int))) (Tm.depthL l:Int) (fun i hi=>by
   have e1:(Tm.mk r0 l).args[i]?=some l[i]:=qa hi;have b1:decide ((i:Int)<((Tm.mk r0 l).args.length:Int))=true:=qh (by show (i:Int)<(l.length:Int);omega);have hs:=Tm.sizeL_mem (qi hi);have q:=k2q n l[i] (by omega) (by omega);have a:imax (Tm.depthL (l.take i):Int) (l[i].depth:Int)=(Tm.depthL (l.take (i+1)):Int):=(by rw [k3k hi];unfold imax;split <;> omega);simp only [kd6,b1,qe,kac,e1,qb,q,a,kbh i]) (by
   have b1:decide ((l.length:Int)<((Tm.mk r0 l).args.length:Int))=false:=qg (by show ¬ (l.length:Int)<(l.length:Int);omega);simp only [kd6,b1,qd,qal])
  have b:kab (kd6 (Tm.mk r0 l) (kc9 n)) fuel (0,0)=some (Tm.depthL l:Int):=by simpa [Tm.depthL] using hl
  unfold kge;rw [b,qb];have f:=k0c (Tm.mk r0 l);have c:(Tm.mk r0 l).depth=Tm.depthL l+1:=rfl;rw [kbh _,c]
theorem kvv:∀ (n:Nat) (t:Tm) (k:Nat),k<=1000->t.size<=1000->t.size<=n->khb n t (k:Int)=some (decide (t.depth<=k))
 | 0,t,k,_,_,h=>by have:=Tm.size_pos t;omega
 | n+1,t,k,hk,ht,hn=>by
  show kj3 (khb n) t (k:Int)=_;obtain ⟨r0,l⟩:=t;have e:(Tm.mk r0 l).size=Tm.sizeL l+1:=rfl;have f:(Tm.mk r0 l).depth=Tm.depthL l+1:=rfl;have d:=kh7 l;unfold kj3;by_cases h0:k=0;subst h0;rw [qg (show ¬ (Tm.mk r0 l).depth<=0 by omega)];rfl
  ·have c0:((k:Int) == 0)=false:=(by rw [qa2];omega);rw [c0];have hl:=kjj (kim (Tm.mk r0 l) (k:Int) (khb n)) l.length (fun i=>(i:Int)) (fun i=>if (l.drop i).all (fun t=>decide (t.depth<=k - 1))=true then .inl () else .inr false) (fun i hi=>by
    have e1:(Tm.mk r0 l).args[i]?=some l[i]:=qa hi;have b1:decide ((i:Int)<((Tm.mk r0 l).args.length:Int))=true:=qh (by show (i:Int)<(l.length:Int);omega);have hs:=Tm.sizeL_mem (qi hi);have a:w64 ((k:Int) - 1)=((k - 1:Nat):Int):=(by rw [kgv];omega);have q:=kvv n l[i] (k - 1) (by omega) (by omega) (by omega);have g:l.drop i=l[i]::l.drop (i+1):=qay hi;simp only [kim,b1,qe,kac,e1,qb,a,q,g,List.all_cons,kbh i];cases decide (l[i].depth<=k - 1) with
    | true=>exact .inl ⟨rfl,by simp⟩
    | false=>exact .inr rfl) (by
    have b1:decide ((l.length:Int)<((Tm.mk r0 l).args.length:Int))=false:=qg (by show ¬ (l.length:Int)<(l.length:Int);omega);simp only [kim,b1,qd,List.drop_length,List.all_nil,if_true])
   have c:kab (kim (Tm.mk r0 l) (k:Int) (khb n)) fuel 0=some (if l.all (fun t=>decide (t.depth<=k - 1))=true then .inl () else .inr false):=(by simpa using hl);have b:l.all (fun t=>decide (t.depth<=k - 1))=decide ((Tm.mk r0 l).depth<=k):=by
    have gen:∀ l:List Tm,l.all (fun t=>decide (t.depth<=k - 1))=decide (Tm.depthL l<=k - 1):=fun l=>by
     induction l with
     | nil=>simp [Tm.depthL]
     | cons x l ih=>
      rw [List.all_cons,ih,<- Bool.decide_and];exact decide_eq_decide.2 (by show _↔max x.depth (Tm.depthL l)<=k - 1;omega)
    rw [gen];exact decide_eq_decide.2 (by omega)
   simp only [qd];rw [c,b,qb];cases decide ((Tm.mk r0 l).depth<=k) <;> rfl
theorem kpl:∀ (n:Nat) (l:La) (s:Int) (t:Tm),t.size<=1000->t.size<=n->(∀ x∈l.rules,x.kind≠3->x.args.length=0)->∃ c,kc8 n l s t=some c/\kdk n l s t=some c
 | 0,l,s,t,_,h,_=>by have:=Tm.size_pos t;omega
 | n+1,l,s,t,ht,hn,hr=>by
  show ∃ c,khq (kc8 n) l s t=some c/\kgx (kdk n) l s t=some c;obtain ⟨r0,ts⟩:=t;have m:(Tm.mk r0 ts).size=Tm.sizeL ts+1:=rfl;have k:=kh7 ts;unfold khq kgx;have b:(Tm.mk r0 ts).rule=r0:=rfl;have a:(Tm.mk r0 ts).args=ts:=rfl;simp only [b,a];by_cases h0:r0<0;rw [qh h0];exact ⟨1,rfl,rfl⟩;by_cases h1:(l.rules.length:Int)<=r0;rw [qg h0,qh h1];exact ⟨1,rfl,rfl⟩;rw [qg h0,qg h1];obtain ⟨x,o,d⟩:=kni l.rules r0 (by omega) (by omega);simp only [qd,qb,o];cases x.symbol != s with
  | true=>exact ⟨3,rfl,rfl⟩
  | false=>
   have e:khc x=some (x.args.length:Int):=by
    unfold khc;by_cases hk:x.kind=3;rw [show (x.kind != 3)=false by rw [qbc];exact hk];rfl
    ·rw [show (x.kind != 3)=true by rw [bne_iff_ne];exact hk,hr x d hk];rfl
   simp only [qd,e,qb];by_cases hl:(ts.length:Int)=(x.args.length:Int)
   ·rw [show ((ts.length:Int) != (x.args.length:Int))=false by rw [qbc];exact hl];obtain ⟨r,h1,p⟩:=koe (ke3 l (Tm.mk r0 ts) (kc8 n) x) (keo l (Tm.mk r0 ts) (kdk n) x) ts.length (fun i=>(i:Int)) (fun i hi=>by
     have e1:ts[i]?=some ts[i]:=qa hi;have f:i<x.args.length:=(by omega);have e2:x.args[i]?=some x.args[i]:=qa f;have b1:decide ((i:Int)<(ts.length:Int))=true:=qh (by omega);have hs:=Tm.sizeL_mem (qi hi);obtain ⟨c,c1,c2⟩:=kpl n l x.args[i] ts[i] (by omega) (by omega) hr;simp only [ke3,keo,a,b1,qe,kac,e1,e2,qb,c1,c2,kbh i];cases c != 0 with
     | true=>exact .inr ⟨_,rfl,rfl⟩
     | false=>exact .inl ⟨rfl,rfl⟩) (.inl ()) (by
     have b1:decide ((ts.length:Int)<(ts.length:Int))=false:=qg (by omega);simp only [ke3,a,b1,qd]) (by
     have b1:decide ((ts.length:Int)<(ts.length:Int))=false:=qg (by omega);simp only [keo,a,b1,qd])
    have g:kab (ke3 l (Tm.mk r0 ts) (kc8 n) x) fuel 0=some r:=(by simpa using h1);have j:kab (keo l (Tm.mk r0 ts) (kdk n) x) fuel 0=some r:=(by simpa using p);simp only [qd,g,j,qb];cases r <;> exact ⟨_,rfl,rfl⟩
   ·rw [show ((ts.length:Int) != (x.args.length:Int))=true by rw [bne_iff_ne];exact hl];exact ⟨4,rfl,rfl⟩
theorem kzb (t:Tm) (m:Nat) (hm:m<=10000):kds t (m:Int)=some (decide (t.size<=m)):=by unfold kds;rw [(ktv fuel t m hm (kb7 (by omega))).1,qb];refine qan some (decide_eq_decide.2 ?_);unfold kdy;split <;> omega
theorem k6k (l:La) (s:Int) (t:Tm) (hl:kq9 l) (ht:t.size<=1000):∃ c,kmq l s t=some c/\kg2 l s t=some c/\(c=0->kns l/\kc8 fuel l s t=some 0):=by
 obtain ⟨c,c1,c2,c3⟩:=k6v l hl;unfold kmq kg2;rw [c1,c2];simp only [qb];by_cases hc:c=0
 ·subst hc;have e:((0:Int) != 0)=false:=rfl;rw [e];simp only [qd];by_cases s0:s<0;rw [qh s0];exact ⟨1,rfl,rfl,fun h=>absurd h (by decide)⟩;by_cases s1:(l.symbols.length:Int)<=s;rw [qg s0,qh s1];exact ⟨1,rfl,rfl,fun h=>absurd h (by decide)⟩;have f:kh3 fuel t 4096=some (kdy 4096 t.size):=(ktv fuel t 4096 (by omega) (kb7 (by omega))).2;have g:kds t 4096=some (decide (t.size<=4096)):=kzb t 4096 (by omega);have hs:khb fuel t 32=some (decide (t.depth<=32)):=kvv fuel t 32 (by omega) (by omega) (qb0 (kb7 (by omega)));have i:=k2q fuel t (by omega) (qb0 (kb7 (by omega)));have a:decide (kdy 4096 t.size<0)=false:=qg (by unfold kdy;split <;> omega);rw [qg s0,qg s1];simp only [qd,qb,f,g,hs,i,a,qh (show t.size<=4096 by omega),qa9];have b:(!(decide (t.depth<=32)))=decide ((32:Int)<(t.depth:Int)):=by rw [<- decide_not];exact decide_eq_decide.2 (by omega)
  rw [b];cases decide ((32:Int)<(t.depth:Int)) with
  | true=>exact ⟨2,rfl,rfl,fun h=>absurd h (by decide)⟩
  | false=>
   obtain ⟨d,d1,d2⟩:=kpl fuel l s t (by omega) (qb0 (kb7 (by omega))) (fun x j hk=>by rw [((c3 rfl).good x j).noargs hk];rfl);simp only [qd,d1,d2,qb];exact ⟨d,rfl,rfl,fun h=>⟨c3 rfl,by rw [h]⟩⟩
 ·rw [show (c != 0)=true by rw [bne_iff_ne];exact hc];exact ⟨c,rfl,rfl,fun h=>absurd h hc⟩
theorem k8j (g:Tm->Int) (t:Tm):t.pre g=g t::Tm.preL g t.args:=by cases t;rfl
theorem kmf {t x:Tm} (h:x∈t.args):x.size<t.size:=by have:=Tm.sizeL_mem h;have:=khg t;omega
theorem kv5 (t:Tm):t.args.length<t.size:=by have:=kh7 t.args;have:=khg t;omega
theorem kuf (g:Tm->Int) (r:Tm->Option (List Int)):∀ (xs:List Tm) (acc:List Int),acc.length+Tm.sizeL xs<=1000000->(∀ x∈xs,r x=some (x.pre g))->xs.foldlM (fun s x=>Option.bind (r x) fun v=>app 8 s v) acc=some (acc++Tm.preL g xs)
 | [],acc,_,_=>by simp [Tm.preL]
 | x::xs,acc,hl,h=>by have hs:Tm.sizeL (x::xs)=x.size+Tm.sizeL xs:=rfl;rw [List.foldlM_cons,h x (qn ..),qb,kcv (by rw [Tm.pre_length];omega)];have:=kuf g r xs (acc++x.pre g) (by rw [qag,Tm.pre_length];omega) fun y hy=>h y (qj _ hy);show List.foldlM _ (acc++x.pre g) xs=_;rw [this,qa8];rfl
theorem kty:∀ (n:Nat) (t:Tm),t.size<=n->t.size<=1000->kbw n t=some t.rules
 | 0,t,h,_=>by have:=Tm.size_pos t;omega
 | n+1,t,h,hl=>by
  show kgj (kbw n) t=_;have b:=kv5 t;have c:=khg t;unfold kgj;rw [kwm (step:=kf2 t (kbw n)) t.args (fun s x=>Option.bind (kbw n x) fun v=>app 8 s v) (fun i s=>(i,s)) (by omega) (fun i x s a=>by
   have hi:=kcg a;simp only [kf2,kaq hi,qe,kac,a,qb,kaj hi (show t.args.length<=9223372036854775807 by omega)];cases kbw n x with
   | none=>rfl
   | some v=>simp only [qb];cases app 8 s v <;> rfl) (fun s=>by simp only [kf2,kal,qd])]
  rw [kuf Tm.rule _ t.args _ (by rw [qar];omega) fun x a=>kty n x (by have:=kmf a;omega) (by have:=kmf a;omega)];show some _=some (t.pre Tm.rule);rw [k8j];rfl
theorem krl:∀ (n:Nat) (t:Tm),t.size<=n->t.size<=1000->kbl n t=some t.arities
 | 0,t,h,_=>by have:=Tm.size_pos t;omega
 | n+1,t,h,hl=>by
  show kfb (kbl n) t=_;have b:=kv5 t;have c:=khg t;unfold kfb;rw [kwm (step:=ke4 t (kbl n)) t.args (fun s x=>Option.bind (kbl n x) fun v=>app 8 s v) (fun i s=>(i,s)) (by omega) (fun i x s a=>by
   have hi:=kcg a;simp only [ke4,kaq hi,qe,kac,a,qb,kaj hi (show t.args.length<=9223372036854775807 by omega)];cases kbl n x with
   | none=>rfl
   | some v=>simp only [qb];cases app 8 s v <;> rfl) (fun s=>by simp only [ke4,kal,qd])]
  rw [kuf Tm.nargs _ t.args _ (by rw [qar];omega) fun x a=>krl n x (by have:=kmf a;omega) (by have:=kmf a;omega)];show some _=some (t.pre Tm.nargs);rw [k8j];rfl
theorem kzk (r:Tm->Option Int):∀ (xs:List Tm) (s:Nat),s+Tm.sizeL xs<=1000000->(∀ x∈xs,r x=some (x.size:Int))->xs.foldlM (fun (s:Int) x=>Option.bind (r x) fun v=>some (w64 (s+v))) (s:Int)=some ((s+Tm.sizeL xs:Nat):Int)
 | [],s,_,_=>by simp [Tm.sizeL]
 | x::xs,s,hl,h=>by have hs:Tm.sizeL (x::xs)=x.size+Tm.sizeL xs:=rfl;rw [List.foldlM_cons,h x (qn ..),qb,kgv];have:=kzk r xs (s+x.size) (by omega) fun y hy=>h y (qj _ hy);show List.foldlM _ ((s:Int)+(x.size:Int)) xs=_;rw [show (s:Int)+(x.size:Int)=((s+x.size:Nat):Int) by omega,this,hs];congr 2;omega
theorem kpm:∀ (n:Nat) (t:Tm),t.size<=n->t.size<=1000->kbd n t=some (t.size:Int)
 | 0,t,h,_=>by have:=Tm.size_pos t;omega
 | n+1,t,h,hl=>by show kgs (kbd n) t=_;have b:=kv5 t;have c:=khg t;unfold kgs;rw [kwm (step:=kgi t (kbd n)) t.args (fun s x=>Option.bind (kbd n x) fun v=>some (w64 (s+v))) (fun i s=>(s,i)) (by omega) (fun i x s a=>by have hi:=kcg a;simp only [kgi,kaq hi,qe,kac,a,qb,kaj hi (show t.args.length<=9223372036854775807 by omega)];cases kbd n x <;> rfl) (fun s=>by simp only [kgi,kal,qd])];have:=kzk (kbd n) t.args 1 (by omega) fun x a=>kpm n x (by have:=kmf a;omega) (by have:=kmf a;omega);rw [show (1:Int)=((1:Nat):Int) from rfl,this,qb];congr 2;omega
def lexC:List Int->List Int->Int
 | x::xs,y::ys=>if x<y then -1 else if y<x then 1 else lexC xs ys
 | _,_=>0
def lexO:List Int->List Int->Unit ⊕ Int
 | x::xs,y::ys=>if x<y then .inr (-1) else if y<x then .inr 1 else lexO xs ys
 | _,_ => .inl ()
theorem k44:∀ xs ys:List Int,Sum.elim (fun _=>0) id (lexO xs ys)=lexC xs ys
 | [],_=>rfl
 | _::_,[]=>rfl
 | x::xs,y::ys=>by
  simp only [lexO,lexC];split;rfl
  ·split;rfl
   ·exact k44 xs ys
theorem k32 (x y:List Int) (hl:x.length=y.length) (d:x.length<=1000000):kao x y=some (lexC x y):=by
 unfold kao;have h:=kjj (kat x y) x.length (fun i=>(i:Int)) (fun i=>lexO (x.drop i) (y.drop i)) (fun i hi=>by
  have hy:i<y.length:=by omega
  simp only [kat,kaq hi,kaq hy,qe,kac,qa hi,qa hy,qb,kaj hi (show x.length<=9223372036854775807 by omega),qay hi,qay hy,lexO];by_cases h1:x[i]<y[i];rw [qh h1,qp h1];exact .inr rfl
  ·rw [qg h1,ql h1];by_cases a:y[i]<x[i];rw [qh a,qp a];exact .inr rfl
   ·rw [qg a,ql a];exact .inl ⟨rfl,rfl⟩) (by
  simp only [kat,kal,qd,List.drop_length,lexO,qb])
 have b:kab (kat x y) fuel 0=some (lexO x y):=by simpa using h
 rw [b,qb,<- k44];cases lexO x y with
 | inr c=>rfl
 | inl u=>
  simp only [q9];unfold ked;have e1:decide ((x.length:Int)<(y.length:Int))=false:=qg (by omega);have e2:decide ((y.length:Int)<(x.length:Int))=false:=qg (by omega);simp [e1,e2,hl]
def cmpT (a b:Tm):Int:=if a.size<b.size then -1 else if b.size<a.size then 1 else if lexC a.rules b.rules≠0 then lexC a.rules b.rules else lexC a.arities b.arities
theorem kpc (a b:Tm) (ha:a.size<=1000) (d:b.size<=1000):ka5 a b=some (cmpT a b):=by
 unfold ka5 cmpT;rw [kpm fuel a (qb0 (kb7 (by omega))) ha,kpm fuel b (qb0 (kb7 (by omega))) d];simp only [qb,ked];by_cases h1:a.size<b.size;rw [qp h1,qh (show (a.size:Int)<(b.size:Int) by omega)];rfl;rw [ql h1,qg (show ¬ (a.size:Int)<(b.size:Int) by omega)];by_cases e:b.size<a.size;rw [qp e,qh (show (b.size:Int)<(a.size:Int) by omega)];rfl;rw [ql e,qg (show ¬ (b.size:Int)<(a.size:Int) by omega)];simp only [qd,qb,show ((0:Int) != 0)=false from rfl];rw [kty fuel a (qb0 (kb7 (by omega))) ha,kty fuel b (qb0 (kb7 (by omega))) d];simp only [qb];rw [k32 a.rules b.rules (by rw [Tm.rules_length,Tm.rules_length];omega) (by rw [Tm.rules_length];omega),qb];by_cases c:lexC a.rules b.rules=0;rw [ql (by simpa using c),c,show ((0:Int) != 0)=false from rfl,qd];rw [krl fuel a (qb0 (kb7 (by omega))) ha,krl fuel b (qb0 (kb7 (by omega))) d];simp only [qb];rw [k32 a.arities b.arities (by rw [Tm.arities_length,Tm.arities_length];omega) (by rw [Tm.arities_length];omega)];rfl
 ·rw [qp c,show (lexC a.rules b.rules != 0)=true by rw [bne_iff_ne];exact c];rfl
mutual
theorem k4c:∀ (s t:Tm) (xs ys us vs:List Int),s.pre Tm.rule++xs=t.pre Tm.rule++ys->s.pre Tm.nargs++us=t.pre Tm.nargs++vs->s=t/\xs=ys/\us=vs
 | .mk r l, .mk r' l',xs,ys,us,vs,h1,a=>by
  simp only [Tm.pre,qbp,List.cons.injEq] at h1 a;have hr:r=r':=h1.1;have hl:l.length=l'.length:=by have:=a.1;simp only [Tm.nargs,Tm.args] at this;omega
  obtain ⟨e1,e2,e3⟩:=k15 l l' hl xs ys us vs h1.2 a.2;exact ⟨by rw [hr,e1],e2,e3⟩
theorem k15:∀ (l l':List Tm),l.length=l'.length->∀ (xs ys us vs:List Int),Tm.preL Tm.rule l++xs=Tm.preL Tm.rule l'++ys->Tm.preL Tm.nargs l++us=Tm.preL Tm.nargs l'++vs->l=l'/\xs=ys/\us=vs
 | [],[],_,xs,ys,us,vs,h1,a=>⟨rfl,by simpa [Tm.preL] using h1,by simpa [Tm.preL] using a⟩
 | [],_::_,h,_,_,_,_,_,_=>by simp at h
 | _::_,[],h,_,_,_,_,_,_=>by simp at h
 | t::l,t'::l',h,xs,ys,us,vs,h1,a=>by simp only [Tm.preL,qa8] at h1 a;obtain ⟨e1,e2,e3⟩:=k4c t t' _ _ _ _ h1 a;obtain ⟨e4,e5,e6⟩:=k15 l l' (by simpa using h) xs ys us vs e2 e3;exact ⟨by rw [e1,e4],e5,e6⟩
end
structure Ord3 {α:Type} (E:α->α->Prop) (c:α->α->Int):Prop where
 anti:∀ x y,E x y->c y x = -c x y
 trans:∀ x y z,E x y->E y z->E x z->c x y<=0->c y z<=0->c x z<=0
def lex {α:Type} (c d:α->α->Int) (x y:α):Int:=if c x y≠0 then c x y else d x y
theorem Ord3.lex {α:Type} {E:α->α->Prop} {c d:α->α->Int} (a:∀ x y,E x y->E y x) (hc:Ord3 E c) (f:Ord3 (fun x y=>E x y/\c x y=0) d):Ord3 E (lex c d):=by
 have z:∀ x y,E x y->(c y x=0↔c x y=0):=fun x y e=>by rw [hc.anti x y e];omega
 refine ⟨fun x y e=>?_,fun x y z e1 e2 e3 h1 b=>?_⟩
 ·unfold Go.Proofs.YtchjomeomabamaaGreatDoor.lex;by_cases h:c x y=0;rw [ql (by rw [(z x y e).2 h];decide),ql (by rw [h];decide)];exact f.anti x y ⟨e,h⟩
  ·rw [qp (fun g=>h ((z x y e).1 g)),qp h];exact hc.anti x y e
 ·unfold Go.Proofs.YtchjomeomabamaaGreatDoor.lex at h1 b ⊢;have k1:c x y<=0:=by split at h1 <;> omega
  have k2:c y z<=0:=by split at b <;> omega
  have k3:=hc.trans x y z e1 e2 e3 k1 k2;by_cases h:c x z=0;have a1:=hc.anti x y e1;have a2:=hc.anti y z e2;have a3:=hc.anti x z e3;have b1:=hc.trans y z x e2 (a _ _ e3) (a _ _ e1) k2 (by omega);have b2:=hc.trans z x y (a _ _ e3) e1 (a _ _ e2) (by omega) k1;have c1:c x y=0:=(by omega);have c2:c y z=0:=(by omega);rw [ql (by rw [c1];decide)] at h1;rw [ql (by rw [c2];decide)] at b;rw [ql (by rw [h];decide)];exact f.trans x y z ⟨e1,c1⟩ ⟨e2,c2⟩ ⟨e3,h⟩ h1 b
  ·rw [qp h];exact k3
def cmpZ {α:Type} (f:α->Int) (x y:α):Int:=if f x<f y then -1 else if f y<f x then 1 else 0
theorem kaam {α:Type} {E:α->α->Prop} (f:α->Int):Ord3 E (cmpZ f):=by
 refine ⟨fun x y _=>?_,fun x y z _ _ _ h1 a=>?_⟩;unfold cmpZ;split <;> split <;> omega
 ·unfold cmpZ at *
  split at h1
  ·split at a;rw [qp (by omega)];decide
   ·split at a;omega
    ·rw [qp (by omega)];decide
  ·split at h1;omega
   ·split at a;rw [qp (by omega)];decide
    ·split at a;omega
     ·rw [ql (by omega),ql (by omega)];decide
theorem kt8:∀ xs ys:List Int,xs.length=ys.length->lexC ys xs = -lexC xs ys
 | [],[],_=>rfl
 | [],_::_,h=>by simp at h
 | _::_,[],h=>by simp at h
 | x::xs,y::ys,h=>by
  have ih:=kt8 xs ys (by simpa using h);simp only [lexC];rcases Int.lt_trichotomy x y with h1 | h1 | h1;rw [ql (by omega),qp h1,qp h1];rfl;rw [ql (by omega),ql (by omega),ql (by omega),ql (by omega),ih]
  ·rw [qp h1,ql (by omega),qp h1]
theorem ksd:∀ xs ys zs:List Int,xs.length=ys.length->ys.length=zs.length->lexC xs ys<=0->lexC ys zs<=0->lexC xs zs<=0
 | [],_,_,_,_,_,_=>by simp [lexC]
 | _::_,[],_,h,_,_,_=>by simp at h
 | _::_,_::_,[],_,h,_,_=>by simp at h
 | x::xs,y::ys,z::zs,h,g,h1,a=>by
  have ih:=ksd xs ys zs (by simpa using h) (by simpa using g);simp only [lexC] at h1 a ⊢;split at h1
  ·split at a;rw [qp (by omega)];decide
   ·split at a;omega
    ·rw [qp (by omega)];decide
  ·split at h1;omega
   ·split at a;rw [qp (by omega)];decide
    ·split at a;omega
     ·rw [ql (by omega),ql (by omega)];exact ih h1 a
theorem kyk:∀ xs ys:List Int,xs.length=ys.length->lexC xs ys=0->xs=ys
 | [],[],_,_=>rfl
 | [],_::_,h,_=>by simp at h
 | _::_,[],h,_=>by simp at h
 | x::xs,y::ys,h,h1=>by
  simp only [lexC] at h1;split at h1;omega
  ·split at h1;omega
   ·rw [kyk xs ys (by simpa using h) h1,show x=y by omega]
theorem kzu:∀ xs:List Int,lexC xs xs=0
 | []=>rfl
 | x::xs=>by simp only [lexC,Int.lt_irrefl,if_false];exact kzu xs
theorem k9m (a b:Tm):cmpT a b=lex (cmpZ fun t:Tm=>(t.size:Int)) (lex (fun a b=>lexC a.rules b.rules) (fun a b=>lexC a.arities b.arities)) a b:=by
 unfold cmpT lex cmpZ;by_cases h1:a.size<b.size;rw [qp h1,qp (show (a.size:Int)<(b.size:Int) by omega),qp (by decide)]
 ·rw [ql h1,ql (show ¬ (a.size:Int)<(b.size:Int) by omega)];by_cases c:b.size<a.size;rw [qp c,qp (show (b.size:Int)<(a.size:Int) by omega),qp (by decide)]
  ·rw [ql c,ql (show ¬ (b.size:Int)<(a.size:Int) by omega),ql (show ¬ ((0:Int)≠0) by decide)]
theorem cmpZ_zero {α:Type} {f:α->Int} {x y:α}:cmpZ f x y=0↔f x=f y:=by
 unfold cmpZ;split;omega
 ·split <;> omega
theorem cmpT_ord:Ord3 (fun _ _=>True) cmpT:=by
 have:cmpT=lex (cmpZ fun t:Tm=>(t.size:Int)) (lex (fun a b=>lexC a.rules b.rules) (fun a b=>lexC a.arities b.arities)):=by funext a b;exact k9m a b
 rw [this];have c:∀ {a b:Tm},cmpZ (fun t:Tm=>(t.size:Int)) a b=0->a.size=b.size:=fun h=>by have:=cmpZ_zero.1 h;omega
 refine Ord3.lex (fun _ _ _=>trivial) (kaam _) (Ord3.lex (fun x y h=>⟨trivial,by have:=c h.2;exact cmpZ_zero.2 (by omega)⟩) ⟨fun x y h=>?_,fun x y z h1 d _=>?_⟩ ⟨fun x y h=>?_,fun x y z h1 d _=>?_⟩);exact kt8 _ _ (by rw [Tm.rules_length,Tm.rules_length];exact c h.2);exact ksd _ _ _ (by rw [Tm.rules_length,Tm.rules_length];exact c h1.2) (by rw [Tm.rules_length,Tm.rules_length];exact c d.2);exact kt8 _ _ (by rw [Tm.arities_length,Tm.arities_length];exact c h.1.2)
 ·exact ksd _ _ _ (by rw [Tm.arities_length,Tm.arities_length];exact c h1.1.2) (by rw [Tm.arities_length,Tm.arities_length];exact c d.1.2)
theorem cmpT_eq0 {s t:Tm}:cmpT s t=0↔s=t:=by
 constructor
 ·intro h;unfold cmpT at h;split at h;omega
  ·split at h;omega
   ·have hs:s.size=t.size:=(by omega);split at h;rename_i h0;exact absurd h h0
    ·rename_i h0;have e1:=kyk s.rules t.rules (by rw [Tm.rules_length,Tm.rules_length];exact hs) (by simpa using h0);have e2:=kyk s.arities t.arities (by rw [Tm.arities_length,Tm.arities_length];exact hs) h;exact (k4c s t [] [] [] [] (by simpa [Tm.rules] using e1) (by simpa [Tm.arities] using e2)).1
 ·rintro rfl;unfold cmpT;simp [kzu]
def kabr:Ru:=Ru.mk 0 0 0 kgy ⟨#[]⟩ []
def kh2 (l:La) (k:Nat):Int:=((l.rules[k]?).getD kabr).symbol
def kl2 (l:La) (k:Nat):List Int:=((l.rules[k]?).getD kabr).args
theorem ku9 (l:La) {k:Nat} (h:k<l.rules.length):∃ y,l.rules[k]?=some y/\y.symbol=kh2 l k/\y.args=kl2 l k/\y∈l.rules:=
 ⟨l.rules[k],qa h,by unfold kh2;rw [qa h];rfl,by unfold kl2;rw [qa h];rfl,qi h⟩
end Go.Proofs.YtchjomeomabamaaGreatDoor
