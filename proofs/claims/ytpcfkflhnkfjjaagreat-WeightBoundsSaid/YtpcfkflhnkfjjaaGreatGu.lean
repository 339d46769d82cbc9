import Derived.Test.YtpcfkflhnkfjjaaGreatGa
set_option linter.all false
namespace Go.Proofs.YtpcfkflhnkfjjaaGreat
open Go Go.RowKit
theorem k7i (n:Nat) (x z:Va) (d:z.items=[]):kb5 (n+1) x z=some (cmpV x z):=by
 show kfx (kb5 n) x z=_;rw [kq4];unfold kfx;by_cases h1:x.type<z.type;rw [qh h1,qn h1];rfl;rw [qe h1,qk h1,qc];by_cases a:z.type<x.type;rw [qh a,qn a];rfl;rw [qe a,qk a,qc];by_cases b:x.num<z.num;rw [qh b,qn b];rfl;rw [qe b,qk b,qc];by_cases c:z.num<x.num;rw [qh c,qn c];rfl;rw [qe c,qk c,qc,kxi];show (bif kfs x.text z.text then _ else bif kfs z.text x.text then _ else _)=_;cases f:kfs x.text z.text with
 | true=>rfl
 | false=>
  cases g:kfs z.text x.text with
  | true=>rfl
  | false=>
   simp only [qc,Bool.false_eq_true,if_false];cases hi:x.items with
   | nil=>
    have:kab (kbm x z (kb5 n)) fuel 0=some (.inl ()):=(by rw [ko8,kab];simp [kbm,hi]);rw [this,d];simp [kgq]
   | cons y l=>
    have:kab (kbm x z (kb5 n)) fuel 0=some (.inr 1):=(by rw [ko8,kab];have e:idx (y::l) 0=some y:=kaf (y::l) 0;simp [kbm,hi,e,d]);rw [this,d];simp [kgq]
theorem k7c (n:Nat) (x:Va):kb5 (n+1) x kfr=some (cmpV x kfr):=k7i n x kfr rfl
theorem k1l (n:Nat) (l:List Va):kbx (n+1) l []=some (if l.length=0 then 0 else 1):=by
 show kbs (kar n) (kbx n) l []=_;have:kab (kax l [] (kar n)) fuel 0=some (.inl ()):=by rw [ko8,kab];cases l <;> simp [kax]
 unfold kbs;rw [this];cases l with
 | nil=>simp
 | cons y l=>
  have h1:((((y::l).length:Nat):Int) == (([]:List Va).length:Int))=false:=by rw [qat,qax,qa9];omega
  have a:decide ((((y::l).length:Nat):Int)<(([]:List Va).length:Int))=false:=qe (by rw [qax,qa9];omega);simp only [qa,qg,h1,a,qc,kkq];rfl
theorem k5i (n:Nat) (x z:Va) (d:z.items=[]):kar (n+2) x z=some (cmpV x z):=by
 show kb8 (kar (n+1)) (kbx (n+1)) x z=_;rw [kq4];unfold kb8;have e:kgq x.items []=if x.items.length=0 then 0 else 1:=by cases x.items <;> rfl
 have a:=k1l n x.items;rw [d,e,a];by_cases t0:x.type=z.type
 ·rw [show (x.type != z.type)=false by rw [qba];exact t0,qc,qk (show ¬ x.type<z.type by omega),qk (show ¬ z.type<x.type by omega)];by_cases n0:x.num=z.num
  ·rw [show (x.num != z.num)=false by rw [qba];exact n0,qc,qk (show ¬ x.num<z.num by omega),qk (show ¬ z.num<x.num by omega)];by_cases b:x.text=z.text;rw [b,show (z.text.toList == z.text.toList)=true from beq_self_eq_true _];simp only [qa6,qc,qa,kvh,Bool.false_eq_true,if_false]
   ·have c:(x.text.toList == z.text.toList)=false:=(by rw [qat];exact fun h=>b (krj h));rw [c];simp only [Bool.not_false,qf,kkq,qa];show some (if kfs x.text z.text=true then (-1:Int) else 1)=_;cases f:kfs x.text z.text with
    | true=>rfl
    | false=>
     cases g:kfs z.text x.text with
     | true=>rfl
     | false=>exact absurd (kzu f g) b
  ·rw [show (x.num != z.num)=true by rw [bne_iff_ne];exact n0,qf,kkq];by_cases hl:x.num<z.num;rw [qh hl,qn hl];rfl
   ·rw [qe hl,qk hl,qn (show z.num<x.num by omega)];rfl
 ·rw [show (x.type != z.type)=true by rw [bne_iff_ne];exact t0,qf,kkq];by_cases hl:x.type<z.type;rw [qh hl,qn hl];rfl
  ·rw [qe hl,qk hl,qn (show z.type<x.type by omega)];rfl
theorem k6k (n:Nat) (x:Va):kar (n+2) x kfr=some (cmpV x kfr):=k5i n x kfr rfl
theorem k2v (x:Va):kft x (Va.mk 0 0 ⟨#[]⟩ [])=some (eqV x kfr):=by unfold kft;have:=k7c 18446744073709551615 x;rw [<- ko8] at this;show Option.bind (kb5 fuel x kfr) _=_;rw [this];simp only [qa,eqV];by_cases h:cmpV x kfr=0 <;> simp [h]
theorem krh (x:Va):kbw x (Va.mk 0 0 ⟨#[]⟩ [])=some (eqV x kfr):=by unfold kbw;have:=k6k 18446744073709551614 x;show Option.bind (kar fuel x kfr) _=_;rw [show fuel=18446744073709551614+2 from rfl,this];simp only [qa,eqV];by_cases h:cmpV x kfr=0 <;> simp [h]
def rkT (t:Int):Nat:=if t=7 then 3 else if t=5\/t=6 then 2 else 1
def inV (x:Va):Prop:=kkh 9223372036854775807 x/\kp6 x
theorem k3u {x:Va} (h:inV x):x.items.length<=9223372036854775807/\x.text.size<=9223372036854775807/\∀ y∈x.items,inV y:=by obtain ⟨l1,l2⟩:=klb h.1;obtain ⟨s1,s2⟩:=k0d h.2;exact ⟨l1,s1,fun y a=>⟨l2 y a,s2 y a⟩⟩
theorem kx9 {k:Nat}:∀ {l:List Va},(∀ y∈l,depV y<=k)->ko9 l<=k
 | [],_=>qaj _
 | y::l,h=>by simp only [ko9];exact Nat.max_le.2 ⟨h y (qs ..),kx9 fun z a=>h z (qo _ a)⟩
theorem kwb {x:Va} {k:Nat} (h:∀ y∈x.items,depV y<=k):depV x<=k+1:=by
 cases x with
 | mk t n s l=>simp only [depV];exact Nat.succ_le_succ (kx9 h)
theorem knv {x:Va} (h:((x.items.length:Int) == 0)=true):depV x<=1:=by
 refine kwb fun y a=>?_;have:x.items.length=0:=by have:=eq_of_beq h;omega
 rw [qa0 this] at a;cases a
theorem k0l:∀ n:Nat,(∀ x:Va,2*rkT x.type<=n->inV x->∃ c,ka4 n x=some c/\kan n x=some c/\(c=0->depV x<=rkT x.type)) /\
  (∀ (l:List Va) (t:Int),(t=2\/t=3)->3<=n->l.length<=9223372036854775807->(∀ x∈l,inV x)->∃ c,khh n l t=some c/\kdk n l t=some c/\(c=0->∀ x∈l,depV x<=1)) /\
  (∀ l:List Va,5<=n->l.length<=9223372036854775807->(∀ x∈l,inV x)->∃ c,kjs n l=some c/\ke4 n l=some c/\(c=0->∀ x∈l,depV x<=2))
 | 0=>⟨fun x h=>by unfold rkT at h;split at h <;> (try split at h) <;> omega,fun l t _ h=>by omega,fun l h=>by omega⟩
 | n+1=>by
  obtain ⟨ih1,ih2,ih3⟩:=k0l n;refine ⟨fun x s m=>?_,fun l t ht s hl wl=>?_,fun l s hl wl=>?_⟩
  ·show ∃ c,kbu (ka4 n) (khh n) (kjs n) x=some c/\kao (kan n) (kdk n) (ke4 n) x=some c/\_;obtain ⟨lx,sx,wx⟩:=k3u m;have hS:=fun a b=>k1y x.text a b sx;have v:=fun a b=>ky4 x.text a b sx;by_cases h0:x.type<1;exact ⟨3,by simp [kbu,h0],by simp [kao,h0],fun h=>absurd h (by decide)⟩;by_cases w:8<x.type;exact ⟨3,by simp [kbu,h0,w],by simp [kao,h0,w],fun h=>absurd h (by decide)⟩;have ht:x.type=1\/x.type=2\/x.type=3\/x.type=4\/x.type=5\/x.type=6\/x.type=7\/x.type=8:=(by omega);have y:∀ t,(t=2\/t=3)->rkT x.type=2->∃ c,khh n x.items t=some c/\kdk n x.items t=some c/\(c=0->depV x<=2):=fun t h1 z=>(by obtain ⟨c,e1,e2,e3⟩:=ih2 x.items t h1 (by omega) lx wx;exact ⟨c,e1,e2,fun h=>kwb (e3 h)⟩);have A:rkT x.type=3->∃ c,kjs n x.items=some c/\ke4 n x.items=some c/\(c=0->depV x<=3):=fun z=>(by obtain ⟨c,e1,e2,e3⟩:=ih3 x.items (by omega) lx wx;exact ⟨c,e1,e2,fun h=>kwb (e3 h)⟩);have hp:=kaac x.items;cases e:(x.text.toList == (⟨#[]⟩:BA).toList) <;> cases hm:(x.num == 0) <;> cases hl:((x.items.length:Int) == 0) <;> rw [hl] at hp <;>
    rcases ht with ht | ht | ht | ht | ht | ht | ht | ht <;>
    first
     | (refine ⟨4,?_,?_,fun h=>absurd h (by decide)⟩;rotate_left;(simp only [kao,ht,e,hm,hp,bne];simp);(simp only [kbu,kdp,ht,e,hm,hl];simp))
     | (obtain ⟨c,e1,e2⟩:=kpv x.num 0 1;refine ⟨c,?_,?_,fun _=>by rw [ht];exact knv hl⟩;rotate_left;(simp only [kao,ht,e,hm,hp,bne];simp [e2]);(simp only [kbu,kdp,ht,e,hm,hl];simp [e1]))
     | (obtain ⟨c,e1,e2⟩:=kpv x.num (-1000000) 1000000;refine ⟨c,?_,?_,fun _=>by rw [ht];exact knv hl⟩;rotate_left;(simp only [kao,ht,e,hm,hp,bne];simp [e2]);(simp only [kbu,kdp,ht,e,hm,hl];simp [e1]))
     | (obtain ⟨c,e1,e2⟩:=kpv x.num 0 255;refine ⟨c,?_,?_,fun _=>by rw [ht];exact knv hl⟩;rotate_left;(simp only [kao,ht,e,hm,hp,bne];simp [e2]);(simp only [kbu,kdp,ht,e,hm,hl];simp [e1]))
     | (obtain ⟨c,e1⟩:=hS 0 64;refine ⟨c,?_,?_,fun _=>by rw [ht];exact knv hl⟩;rotate_left;(simp only [kao,ht,e,hm,hp,bne];simp [v,e1]);(simp only [kbu,kdp,ht,e,hm,hl];simp [e1]))
     | (obtain ⟨c,e1⟩:=hS 1 40;refine ⟨c,?_,?_,fun _=>by rw [ht];exact knv hl⟩;rotate_left;(simp only [kao,ht,e,hm,hp,bne];simp [v,e1]);(simp only [kbu,kdp,ht,e,hm,hl];simp [e1]))
     | (obtain ⟨c,e1,e2,e3⟩:=y 2 (.inl rfl) (by rw [ht];rfl);refine ⟨c,?_,?_,fun h=>by rw [ht];exact e3 h⟩;rotate_left;(simp only [kao,ht,e,hm,hp,bne];simp [e2]);(simp only [kbu,kdp,ht,e,hm,hl];simp [e1]))
     | (obtain ⟨c,e1,e2,e3⟩:=y 3 (.inr rfl) (by rw [ht];rfl);refine ⟨c,?_,?_,fun h=>by rw [ht];exact e3 h⟩;rotate_left;(simp only [kao,ht,e,hm,hp,bne];simp [e2]);(simp only [kbu,kdp,ht,e,hm,hl];simp [e1]))
     | (obtain ⟨c,e1,e2,e3⟩:=A (by rw [ht];rfl);refine ⟨c,?_,?_,fun h=>by rw [ht];exact e3 h⟩;rotate_left;(simp only [kao,ht,e,hm,hp,bne];simp [e2]);(simp only [kbu,kdp,ht,e,hm,hl];simp [e1]))
  ·show ∃ c,kgk (ka4 n) (khh n) (kjs n) l t=some c/\kcn (kan n) (kdk n) (ke4 n) l t=some c/\_;by_cases d:(16:Int)<(l.length:Int);exact ⟨2,by simp only [kgk,qh d,qf],by simp only [kcn,qh d,qf],fun h=>absurd h (by decide)⟩
   ·have o:rkT t=1:=(by rcases ht with rfl | rfl <;> rfl);have hst:∀ (i:Nat) (hi:i<l.length),(ka2 l t (ka4 n) (i:Int)=some (.inl ((i+1:Nat):Int))/\ka6 l t (kan n) (i:Int)=some (.inl ((i+1:Nat):Int))/\depV l[i]<=1) \/
      ∃ c,c≠0/\ka2 l t (ka4 n) (i:Int)=some (.inr (.inr c))/\ka6 l t (kan n) (i:Int)=some (.inr (.inr c)):=fun i hi=>by
     have e1:l[i]?=some l[i]:=qb hi;have b1:decide ((i:Int)<(l.length:Int))=true:=qh (by omega);have p:=kcv (n:=i) (by omega);cases ht:(l[i].type != t) with
     | true=>exact .inr ⟨3,by decide,by simp only [ka2,b1,kaf,e1,ht,qf,qa],by simp only [ka6,b1,kaf,e1,ht,qf,qa]⟩
     | false=>
      have g:l[i].type=t:=(by rwa [qba] at ht);obtain ⟨c,k1,k2,k3⟩:=ih1 l[i] (by rw [g,o];omega) (wl _ (qq hi));rw [g,o] at k3;cases hc:(c != 0) with
      | true=>exact .inr ⟨c,by simpa using hc,by simp only [ka2,b1,kaf,e1,ht,k1,hc,qf,qc,qa],by simp only [ka6,b1,kaf,e1,ht,k2,hc,qf,qc,qa]⟩
      | false=>exact .inl ⟨by simp only [ka2,b1,kaf,e1,ht,k1,hc,p,qf,qc,qa],by simp only [ka6,b1,kaf,e1,ht,k2,hc,p,qf,qc,qa],k3 (by rwa [qba] at hc)⟩
    obtain ⟨r,e1,e2⟩:=ko5 (step:=ka2 l t (ka4 n)) (step':=ka6 l t (kan n)) l.length (by omega) (fun i=>(i:Int)) (fun i hi=>by
     rcases hst i hi with ⟨a1,a2,_⟩ | ⟨c,_,a1,a2⟩;exact .inl ⟨a1,a2⟩
     ·exact .inr ⟨_,a1,a2⟩) (.inl ()) (by simp [ka2]) (by simp [ka6])
    have e1':kab (ka2 l t (ka4 n)) fuel 0=some r:=(by simpa using e1);have e2':kab (ka6 l t (kan n)) fuel 0=some r:=(by simpa using e2);have j:∀ c:Int,r = .inr c->c≠0:=fun c hr=>by
     obtain ⟨r2,r3,f1,f2,f3⟩:=kjg (step:=ka2 l t (ka4 n)) (step':=ka2 l t (ka4 n)) l.length (by omega) (fun i=>(i:Int)) (fun i=>(i:Int)) (fun r r'=>∀ c,r = .inr c->c≠0) (fun i hi=>by
      rcases hst i hi with ⟨a1,a2,_⟩ | ⟨c,h0,a1,a2⟩;exact .inl ⟨a1,a1⟩
      ·exact .inr ⟨_,_,a1,a1,fun c' h=>by cases h;exact h0⟩) ⟨.inl (), .inl (),by simp [ka2],by simp [ka2],fun c h=>by cases h⟩
     have f1':kab (ka2 l t (ka4 n)) fuel 0=some r2:=(by simpa using f1);rw [e1'] at f1';cases f1';exact f3 c hr
    refine ⟨Sum.elim (fun _=>0) id r,?_,?_,fun h0=>?_⟩;simp only [kgk,qe d,qc,e1',qa];cases r <;> rfl;simp only [kcn,qe d,qc,e2',qa];cases r <;> rfl
    ·cases r with
     | inr c=>exact absurd h0 (j c rfl)
     | inl u=>
      intro x m;obtain ⟨i,hi,rfl⟩:=qaa.1 m;have f:=kq2 (step:=ka2 l t (ka4 n)) l.length (fun i=>(i:Int)) (.inl u) (fun i hi=>by
       rcases hst i hi with ⟨a1,a2,_⟩ | ⟨c,_,a1,a2⟩;exact .inl a1
       ·exact .inr ⟨_,a1,fun h=>by cases h⟩) fuel 0 e1' i (qaj _) hi
      rcases hst i hi with ⟨_,_,h⟩ | ⟨c,_,a1,_⟩;exact h
      ·rw [a1] at f;cases f
  ·show ∃ c,kin (ka4 n) (khh n) (kjs n) l=some c/\kea (kan n) (kdk n) (ke4 n) l=some c/\_;by_cases d:(8:Int)<(l.length:Int);exact ⟨2,by simp only [kin,qh d,qf],by simp only [kea,qh d,qf],fun h=>absurd h (by decide)⟩
   ·have hst:∀ (i:Nat) (hi:i<l.length),(kbi l (ka4 n) (i:Int)=some (.inl ((i+1:Nat):Int))/\ka9 l (kan n) (i:Int)=some (.inl ((i+1:Nat):Int))/\depV l[i]<=2) \/
      ∃ c,c≠0/\kbi l (ka4 n) (i:Int)=some (.inr (.inr c))/\ka9 l (kan n) (i:Int)=some (.inr (.inr c)):=fun i hi=>by
     have e1:l[i]?=some l[i]:=qb hi;have e0:idx l 0=some (l[0]'(by omega)):=(by rw [show (0:Int)=((0:Nat):Int) from rfl,kaf,qb]);have b1:decide ((i:Int)<(l.length:Int))=true:=qh (by omega);have p:=kcv (n:=i) (by omega);cases ht:(l[i].type != 6) with
     | true=>exact .inr ⟨3,by decide,by simp only [kbi,b1,kaf,e1,ht,qf,qa],by simp only [ka9,b1,kaf,e1,ht,qf,qa]⟩
     | false=>
      have g:l[i].type=6:=(by rwa [qba] at ht);obtain ⟨c,k1,k2,k3⟩:=ih1 l[i] (by rw [g];show 2*2<=n;omega) (wl _ (qq hi));rw [g] at k3;obtain ⟨q,k⟩:∃ q,(bif decide ((l[i].items.length:Int)<1) then some true else bif decide (8<(l[i].items.length:Int)) then some true else (some ((l[i].items.length:Int) != ((l[0]'(by omega)).items.length:Int)):Option Bool))=some q:=(by cases decide ((l[i].items.length:Int)<1) <;> cases decide (8<(l[i].items.length:Int)) <;> exact ⟨_,rfl⟩);cases q with
      | true=>exact .inr ⟨2,by decide,by simp only [kbi,b1,kaf,e1,e0,ht,k,qf,qc,qa],by simp only [ka9,b1,kaf,e1,e0,ht,k,qf,qc,qa]⟩
      | false=>
       cases hc:(c != 0) with
       | true=>exact .inr ⟨c,by simpa using hc,by simp only [kbi,b1,kaf,e1,e0,ht,k,k1,hc,qf,qc,qa],by simp only [ka9,b1,kaf,e1,e0,ht,k,k2,hc,qf,qc,qa]⟩
       | false=>exact .inl ⟨by simp only [kbi,b1,kaf,e1,e0,ht,k,k1,hc,p,qf,qc,qa],by simp only [ka9,b1,kaf,e1,e0,ht,k,k2,hc,p,qf,qc,qa],k3 (by rwa [qba] at hc)⟩
    obtain ⟨r,e1,e2⟩:=ko5 (step:=kbi l (ka4 n)) (step':=ka9 l (kan n)) l.length (by omega) (fun i=>(i:Int)) (fun i hi=>by
     rcases hst i hi with ⟨a1,a2,_⟩ | ⟨c,_,a1,a2⟩;exact .inl ⟨a1,a2⟩
     ·exact .inr ⟨_,a1,a2⟩) (.inl ()) (by simp [kbi]) (by simp [ka9])
    have e1':kab (kbi l (ka4 n)) fuel 0=some r:=(by simpa using e1);have e2':kab (ka9 l (kan n)) fuel 0=some r:=(by simpa using e2);have j:∀ c:Int,r = .inr c->c≠0:=fun c hr=>by
     obtain ⟨r2,r3,f1,f2,f3⟩:=kjg (step:=kbi l (ka4 n)) (step':=kbi l (ka4 n)) l.length (by omega) (fun i=>(i:Int)) (fun i=>(i:Int)) (fun r r'=>∀ c,r = .inr c->c≠0) (fun i hi=>by
      rcases hst i hi with ⟨a1,a2,_⟩ | ⟨c,h0,a1,a2⟩;exact .inl ⟨a1,a1⟩
      ·exact .inr ⟨_,_,a1,a1,fun c' h=>by cases h;exact h0⟩) ⟨.inl (), .inl (),by simp [kbi],by simp [kbi],fun c h=>by cases h⟩
     have f1':kab (kbi l (ka4 n)) fuel 0=some r2:=(by simpa using f1);rw [e1'] at f1';cases f1';exact f3 c hr
    refine ⟨Sum.elim (fun _=>0) id r,?_,?_,fun h0=>?_⟩;simp only [kin,qe d,qc,e1',qa];cases r <;> rfl;simp only [kea,qe d,qc,e2',qa];cases r <;> rfl
    ·cases r with
     | inr c=>exact absurd h0 (j c rfl)
     | inl u=>
      intro x m;obtain ⟨i,hi,rfl⟩:=qaa.1 m;have f:=kq2 (step:=kbi l (ka4 n)) l.length (fun i=>(i:Int)) (.inl u) (fun i hi=>by
       rcases hst i hi with ⟨a1,a2,_⟩ | ⟨c,_,a1,a2⟩;exact .inl a1
       ·exact .inr ⟨_,a1,fun h=>by cases h⟩) fuel 0 e1' i (qaj _) hi
      rcases hst i hi with ⟨_,_,h⟩ | ⟨c,_,a1,_⟩;exact h
      ·rw [a1] at f;cases f
theorem k4u (t:Int):rkT t<=3:=by unfold rkT;split <;> (try split) <;> omega
theorem k00 {x:Va} (a:inV x):∃ c,ka4 fuel x=some c/\kan fuel x=some c/\(c=0->okV x):=by have b:2*rkT x.type<=fuel:=qaf (Nat.mul_le_mul_left 2 (k4u x.type)) (by decide);obtain ⟨c,h1,d,e⟩:=(k0l fuel).1 x b a;exact ⟨c,h1,d,fun h=>⟨by have:=e h;have:=k4u x.type;omega,a.1⟩⟩
def kvi (r:Ru):Prop:=r.args.length<=9223372036854775807/\inV r.const
theorem kyt {x:Va} (h:eqV x kfr=true):x=kfr:=k81 x kfr (by simpa [eqV] using h)
theorem kaa9 (l:La) (r:Ru) (hr:kvi r):∃ c,kil l r=some c/\kcs l r=some c:=by obtain ⟨c,h1,a,_⟩:=k00 hr.2;exact k6y l r hr.1 (krh _) (k2v _) ⟨c,h1,a⟩
structure GoodR (l:La) (r:Ru):Prop where
 sym0:0<=r.symbol
 sym1:r.symbol<(l.symbols.length:Int)
 kind:r.kind=1\/r.kind=2\/r.kind=3
 noargs:r.kind≠3->r.args=[]
 args:∀ a∈r.args,0<=a/\a<(l.symbols.length:Int)
 few:r.args.length<=5
 fine:okV r.const
theorem kgg {α:Type} {b:Bool} {x y:Option α} {r:α} (h:(bif b then x else y)=some r):(b=true/\x=some r)\/(b=false/\y=some r):=by
 cases b;exact .inr ⟨rfl,h⟩
 ·exact .inl ⟨rfl,h⟩
theorem kie {α β:Type} {E:Option α} {K:α->Option β} {r:β} (h:Option.bind E K=some r):∃ v,E=some v/\K v=some r:=qd.1 h
theorem ky8:opNames.all (fun n=>(kcb n).all fun o=>decide (o.1.f_Args.length<=5))=true:=by kernel_rfl
theorem k5f {s:BA} {o:Sab×Bool} (h:kcb s=some o) (ho:o.2=true):o.1.f_Args.length<=5:=by
 by_cases a:s∈opNames;have:=qr.1 ky8 s a;rw [h] at this;simpa using this
 ·rw [(kwz s a).2] at h;cases h;cases ho
theorem k23 {l:La} {r:Ru} (ha:r.args.length<=9223372036854775807) (h:kcy l r=some 0):r.args.length<=5/\∀ a∈r.args,0<=a/\a<(l.symbols.length:Int):=by
 unfold kcy at h;obtain ⟨o,h1,h⟩:=kie h;rcases kgg h with ⟨_,h⟩ | ⟨f,h⟩;cases h;rcases kgg h with ⟨_,h⟩ | ⟨g,h⟩;cases h;have e:r.args.length=o.1.f_Args.length:=by have:=qba.1 g;omega
 have q:=k5f h1 (by simpa using f);obtain ⟨v,j,h⟩:=kie h;refine ⟨by omega,fun a d=>?_⟩;have hst:∀ i,i<r.args.length->ka0 l r o (i:Int)=some (.inl ((i+1:Nat):Int))/\(∀ x,r.args[i]?=some x->0<=x/\x<(l.symbols.length:Int))\/∃ c,c≠0/\ka0 l r o (i:Int)=some (.inr (.inr c)):=fun i hi=>by
  have e1:r.args[i]?=some r.args[i]:=qb hi;have hi2:i<o.1.f_Args.length:=by omega
  have e2:o.1.f_Args[i]?=some o.1.f_Args[i]:=qb hi2;have b1:decide ((i:Int)<(r.args.length:Int))=true:=qh (by omega);simp only [ka0,b1,qf,kaf,e1,e2,qa,kcv (n:=i) (by omega)];by_cases h0:0<=r.args[i]
  ·by_cases h1:r.args[i]<(l.symbols.length:Int)
   ·obtain ⟨x,k,_⟩:=ksv h0 h1;rw [qe (show ¬ r.args[i]<0 by omega),qe (show ¬ (l.symbols.length:Int)<=r.args[i] by omega)];simp only [qc,qa,k];cases x.type != o.1.f_Args[i] with
    | true=>exact .inr ⟨3,by decide,rfl⟩
    | false=>exact .inl ⟨rfl,fun y m=>by cases m;exact ⟨h0,h1⟩⟩
   ·rw [qe (show ¬ r.args[i]<0 by omega),qh (show (l.symbols.length:Int)<=r.args[i] by omega)];exact .inr ⟨1,by decide,rfl⟩
  ·rw [qh (show r.args[i]<0 by omega)];exact .inr ⟨1,by decide,rfl⟩
 obtain ⟨i,hi,rfl⟩:=qaa.1 d;have hv:∀ c:Int,c≠0->(.inr c:Unit ⊕ Int)≠v:=fun c hc p=>by subst p;cases h;exact hc rfl
 have b:=kq2 (step:=ka0 l r o) r.args.length (fun i=>(i:Int)) v (fun i hi=>by
  rcases hst i hi with ⟨a1,_⟩ | ⟨c,hc,a1⟩;exact .inl a1
  ·exact .inr ⟨_,a1,hv c hc⟩) fuel 0 j i (qaj _) hi
 rcases hst i hi with ⟨_,a2⟩ | ⟨c,_,a1⟩;exact a2 _ (qb hi)
 ·rw [a1] at b;cases b
theorem len0 {α:Type} {xs:List α} (h:((xs.length:Int) == 0)=true):xs=[]:=qa0 (by have:=eq_of_beq h;omega)
theorem k44 {l:La} {r:Ru} (hr:kvi r) (h:kcs l r=some 0):GoodR l r:=by
 unfold kcs at h;obtain ⟨b1,h1,h⟩:=kie h;rcases kgg h with ⟨_,h⟩ | ⟨k,h⟩;cases h;subst k;have hs:0<=r.symbol/\r.symbol<(l.symbols.length:Int):=by
  rcases kgg h1 with ⟨_,h1⟩ | ⟨q,h1⟩;cases h1
  ·have q:=of_decide_eq_false q;have q2:=of_decide_eq_false (qaq h1);omega
 obtain ⟨b2,f,h⟩:=kie h;rcases kgg h with ⟨_,h⟩ | ⟨m,h⟩;cases h;subst m;rcases kgg f with ⟨_,f⟩ | ⟨q1,f⟩;cases f;rcases kgg f with ⟨_,f⟩ | ⟨q2,f⟩;cases f;have q1:=of_decide_eq_false q1;have q2:=of_decide_eq_false q2;obtain ⟨z,g,n⟩:=kie f;have o:z=true:=by
  cases z with
  | true=>rfl
  | false=>cases n
 subst o;obtain ⟨x,p,h⟩:=kie h;unfold kd3 at g;rw [krh,qa] at g;have hk:r.kind=1\/r.kind=2\/r.kind=3:=by omega
 have okz:eqV r.const kfr=true->okV r.const:=fun h=>by rw [kyt h];exact kug
 rcases hk with hk | hk | hk
 ·have c1:(r.kind == 1)=true:=by rw [hk];rfl
  rw [c1,qf] at g;obtain ⟨b,d,i⟩:=kie g;cases i;rcases kgg d with ⟨e1,d⟩ | ⟨_,d⟩
  ·rcases kgg d with ⟨e2,d⟩ | ⟨_,d⟩;have ha:=len0 (qaq d);exact ⟨hs.1,hs.2, .inl hk,fun _=>ha,by rw [ha];intro a h;(cases h),by rw [ha];exact qaj _,okz e1⟩
   ·cases d
  ·cases d
 ·have c1:(r.kind == 1)=false:=by rw [hk];rfl
  have c2:(r.kind == 2)=true:=by rw [hk];rfl
  rw [c1,qc,c2,qf] at g;rw [c1,qc,c2,qf] at h;obtain ⟨b,d,i⟩:=kie g;cases i;obtain ⟨c,g1,g2⟩:=kie h;have hc:c=0:=by
   rcases kgg g2 with ⟨e,g2⟩ | ⟨e,g2⟩;cases g2;rfl
   ·exact qba.1 e
  obtain ⟨c',f1,f2,f3⟩:=k00 hr.2;have j:c'=0:=by rw [f2] at g1;cases g1;exact hc
  rcases kgg d with ⟨e1,d⟩ | ⟨_,d⟩
  ·rcases kgg d with ⟨e2,d⟩ | ⟨_,d⟩;have ha:=len0 (qaq d);exact ⟨hs.1,hs.2, .inr (.inl hk),fun _=>ha,by rw [ha];intro a h;(cases h),by rw [ha];exact qaj _,f3 j⟩
   ·cases d
  ·cases d
 ·have c1:(r.kind == 1)=false:=by rw [hk];rfl
  have c2:(r.kind == 2)=false:=by rw [hk];rfl
  rw [c1,qc,c2,qc] at g;rw [c1,qc,c2,qc] at h;obtain ⟨b,d,i⟩:=kie g;cases i;obtain ⟨c,g1,g2⟩:=kie h;cases g2;obtain ⟨a1,a2⟩:=k23 hr.1 g1;rcases kgg d with ⟨e1,d⟩ | ⟨_,d⟩;exact ⟨hs.1,hs.2, .inr (.inr hk),fun h=>absurd hk h,a2,a1,okz (qaq d)⟩
  ·cases d
theorem GoodR.fineR {l:La} {r:Ru} (h:GoodR l r) (hr:kvi r):fineR r:=⟨by have:=h.few;omega,h.fine,hr.2.2⟩
structure kta (l:La):Prop where
 name:l.name.size<=9223372036854775807
 inputs:l.inputs.length<=9223372036854775807
 symbols:l.symbols.length<=9223372036854775807
 rules:l.rules.length<=9223372036854775807
 names:∀ x∈l.symbols,x.name.size<=9223372036854775807
 wide:∀ r∈l.rules,kvi r
structure ki6 (l:La):Prop where
 inputs:l.inputs.length<=4
 sym1:1<=l.symbols.length
 sym16:l.symbols.length<=16
 rules:l.rules.length<=96
 good:∀ r∈l.rules,GoodR l r
theorem k9l (l:La) (h:kta l):∃ r,kab (kbl l) fuel 0=some r/\kab (kat l) fuel 0=some r/\(r = .inl ()->∀ x∈l.rules,GoodR l x)/\(∀ e,r = .inr e->e≠0):=by
 have hl:=h.rules;have w:∀ n,n<=l.rules.length->(∃ i,i<n/\∃ e,e≠0/\(∀ j,j<i->kbl l (j:Int)=some (.inl ((j+1:Nat):Int))/\kat l (j:Int)=some (.inl ((j+1:Nat):Int)))/\kbl l (i:Int)=some (.inr (.inr e))/\kat l (i:Int)=some (.inr (.inr e))) \/
   ((∀ j,j<n->kbl l (j:Int)=some (.inl ((j+1:Nat):Int))/\kat l (j:Int)=some (.inl ((j+1:Nat):Int)))/\∀ j (a:j<l.rules.length),j<n->GoodR l l.rules[j]):=by
  intro n
  induction n with
  | zero=>intro _;exact .inr ⟨fun j a=>by omega,fun j _ a=>by omega⟩
  | succ n ih=>
   intro hn;rcases ih (by omega) with ⟨i,hi,e,o,p⟩ | ⟨g1,g2⟩;exact .inl ⟨i,by omega,e,o,p⟩
   ·have hi:n<l.rules.length:=(by omega);have e1:l.rules[n]?=some l.rules[n]:=qb hi;have b1:decide ((n:Int)<(l.rules.length:Int))=true:=qh (by omega);have q:=h.wide _ (qq hi);obtain ⟨c,c1,c2⟩:=kaa9 l l.rules[n] q;by_cases hc:c=0
    ·subst hc;have v:=k44 q c2;have m:∀ j (a:j<l.rules.length),j<=n->fineR l.rules[j]:=fun j a g=>by
      have s:=h.wide _ (qq a);by_cases d:j=n;subst d;exact v.fineR q
      ·exact (g2 j a (by omega)).fineR s
     obtain ⟨b,d1,d2⟩:=k7b l n hi hl m;cases b with
     | true=>
      refine .inl ⟨n,by omega,6,by decide,g1,?_,?_⟩;simp only [kbl,b1,qf,kaf,e1,qa,c1,kx4 l.rules n (by omega),d1];rfl
      ·simp only [kat,b1,qf,kaf,e1,qa,c2,d2];rfl
     | false=>
      refine .inr ⟨fun j a=>?_,fun j a g=>?_⟩
      ·by_cases g:j=n
       ·subst g;constructor;simp only [kbl,b1,qf,kaf,e1,qa,c1,kx4 l.rules j (by omega),d1,kcv (n:=j) (by omega)];rfl
        ·simp only [kat,b1,qf,kaf,e1,qa,c2,d2,kcv (n:=j) (by omega)];rfl
       ·exact g1 j (by omega)
      ·by_cases d:j=n;subst d;exact v
       ·exact g2 j a (by omega)
    ·refine .inl ⟨n,by omega,c,hc,g1,?_,?_⟩;simp only [kbl,b1,qf,kaf,e1,qa,c1,show (c != 0)=true by simpa using hc]
     ·simp only [kat,b1,qf,kaf,e1,qa,c2,show (c != 0)=true by simpa using hc]
 have f:kbl l (l.rules.length:Int)=some (.inr (.inl ()))/\kat l (l.rules.length:Int)=some (.inr (.inl ())):=by have b1:decide ((l.rules.length:Int)<(l.rules.length:Int))=false:=qe (by omega);simp only [kbl,kat,b1,qc,and_self]
 rcases w l.rules.length (qx _) with ⟨i,hi,e,o,a,a1,a2⟩ | ⟨g1,g2⟩;obtain ⟨r,r',h1,t,rfl,u⟩:=kjg (step:=kbl l) (step':=kat l) i (by omega) (fun i=>(i:Int)) (fun i=>(i:Int)) (fun r r'=>r=r'/\r = .inr e) (fun j k => .inl (a j k)) ⟨_,_,a1,a2,rfl,rfl⟩;subst u;exact ⟨_,by simpa using h1,by simpa using t,(fun h=>by cases h),fun e' h=>by cases h;exact o⟩
 ·obtain ⟨r,r',h1,t,rfl,u⟩:=kjg (step:=kbl l) (step':=kat l) l.rules.length (by omega) (fun i=>(i:Int)) (fun i=>(i:Int)) (fun r r'=>r=r'/\r = .inl ()) (fun j k => .inl (g1 j k)) ⟨_,_,f.1,f.2,rfl,rfl⟩;subst u;refine ⟨_,by simpa using h1,by simpa using t,fun _ x p=>?_,fun e' h=>by cases h⟩;obtain ⟨i,hi,rfl⟩:=qaa.1 p;exact g2 i hi hi
theorem k27 (l:La) (h:kta l):∃ c,kf7 l=some c/\kba l=some c/\(c=0->ki6 l):=by
 obtain ⟨b,n1,n2⟩:=ku6 l.name h.name;obtain ⟨r1,i1,i2,i3⟩:=kz6 l h.inputs;obtain ⟨r2,s1,s2,s3⟩:=kyv l h.symbols h.names;obtain ⟨r3,t1,t2,t3,t4⟩:=k9l l h;have a:∀ c:Int,c≠0->(c=0->ki6 l):=fun c hc h=>absurd h hc;unfold kf7 kba;rw [n1,n2];simp only [qa];cases b with
 | false=>exact ⟨5,rfl,rfl,a 5 (by decide)⟩
 | true=>
  simp only [qa6,qc];cases f:decide (4<(l.inputs.length:Int)) with
  | true=>exact ⟨2,rfl,rfl,a 2 (by decide)⟩
  | false=>
   have f:=of_decide_eq_false f;simp only [qc,i1,i2,qa];cases r1 with
   | inr e=>exact ⟨e,rfl,rfl,a e (i3 e rfl)⟩
   | inl u=>
    simp only [qg];have hc:(bif decide ((l.symbols.length:Int)<1) then some true else some (decide (16<(l.symbols.length:Int))):Option Bool)=some (decide ((l.symbols.length:Int)<1) || decide (16<(l.symbols.length:Int))):=(by cases decide ((l.symbols.length:Int)<1) <;> rfl);rw [hc,qa,qa];cases d:decide ((l.symbols.length:Int)<1) || decide (16<(l.symbols.length:Int)) with
    | true=>exact ⟨2,rfl,rfl,a 2 (by decide)⟩
    | false=>
     rw [Bool.or_eq_false_iff] at d;have i:=of_decide_eq_false d.1;have j:=of_decide_eq_false d.2;simp only [qc,s1,s2,qa];cases r2 with
     | inr e=>exact ⟨e,rfl,rfl,a e (s3 e rfl)⟩
     | inl u=>
      simp only [qg];cases g:decide (96<(l.rules.length:Int)) with
      | true=>exact ⟨2,rfl,rfl,a 2 (by decide)⟩
      | false=>
       have g:=of_decide_eq_false g;simp only [qc,t1,t2,qa];cases r3 with
       | inr e=>exact ⟨e,rfl,rfl,a e (t4 e rfl)⟩
       | inl u=>exact ⟨0,rfl,rfl,fun _=>⟨by omega,by omega,by omega,by omega,t3 rfl⟩⟩
end Go.Proofs.YtpcfkflhnkfjjaaGreat
