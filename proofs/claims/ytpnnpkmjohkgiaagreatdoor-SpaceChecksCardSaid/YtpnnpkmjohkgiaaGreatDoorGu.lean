import Derived.Test.YtpnnpkmjohkgiaaGreatDoorGa
set_option linter.all false
namespace Go.Proofs.YtpnnpkmjohkgiaaGreatDoor
open Go Go.RowKit
theorem k27 (n:Nat) (x z:Va) (d:z.items=[]):kbv (n+1) x z=some (cmpV x z):=by
 show kd2 (kbv n) x z=_;rw [kmv];unfold kd2;by_cases h1:x.type<z.type;rw [qk h1,qq h1];rfl;rw [qi h1,ql h1,qe];by_cases a:z.type<x.type;rw [qk a,qq a];rfl;rw [qi a,ql a,qe];by_cases b:x.num<z.num;rw [qk b,qq b];rfl;rw [qi b,ql b,qe];by_cases c:z.num<x.num;rw [qk c,qq c];rfl;rw [qi c,ql c,qe,ksb];show (bif kdv x.text z.text then _ else bif kdv z.text x.text then _ else _)=_;cases f:kdv x.text z.text with
 | true=>rfl
 | false=>
  cases g:kdv z.text x.text with
  | true=>rfl
  | false=>
   simp only [qe,Bool.false_eq_true,if_false];cases hi:x.items with
   | nil=>
    have:kac (kbf x z (kbv n)) fuel 0=some (.inl ()):=(by rw [klc,kac];simp [kbf,hi]);rw [this,d];simp [keq]
   | cons y l=>
    have:kac (kbf x z (kbv n)) fuel 0=some (.inr 1):=(by rw [klc,kac];have e:idx (y::l) 0=some y:=kaj (y::l) 0;simp [kbf,hi,e,d]);rw [this,d];simp [keq]
theorem k2v (n:Nat) (x:Va):kbv (n+1) x kd8=some (cmpV x kd8):=k27 n x kd8 rfl
theorem kwa (n:Nat) (l:List Va):kbo (n+1) l []=some (if l.length=0 then 0 else 1):=by
 show kbi (kan n) (kbo n) l []=_;have:kac (kas l [] (kan n)) fuel 0=some (.inl ()):=by rw [klc,kac];cases l <;> simp [kas]
 unfold kbi;rw [this];cases l with
 | nil=>simp
 | cons y l=>
  have h1:((((y::l).length:Nat):Int) == (([]:List Va).length:Int))=false:=by rw [qar,List.length_cons,List.length_nil];omega
  have a:decide ((((y::l).length:Nat):Int)<(([]:List Va).length:Int))=false:=qi (by rw [List.length_cons,List.length_nil];omega);simp only [qb,qf,h1,a,qe,kh2];rfl
theorem k0s (n:Nat) (x z:Va) (d:z.items=[]):kan (n+2) x z=some (cmpV x z):=by
 show kbx (kan (n+1)) (kbo (n+1)) x z=_;rw [kmv];unfold kbx;have e:keq x.items []=if x.items.length=0 then 0 else 1:=by cases x.items <;> rfl
 have a:=kwa n x.items;rw [d,e,a];by_cases t0:x.type=z.type
 ·rw [show (x.type != z.type)=false by rw [qbc];exact t0,qe,ql (show ¬ x.type<z.type by omega),ql (show ¬ z.type<x.type by omega)];by_cases n0:x.num=z.num
  ·rw [show (x.num != z.num)=false by rw [qbc];exact n0,qe,ql (show ¬ x.num<z.num by omega),ql (show ¬ z.num<x.num by omega)];by_cases b:x.text=z.text;rw [b,show (z.text.toList == z.text.toList)=true from beq_self_eq_true _];simp only [qa9,qe,qb,kqi,Bool.false_eq_true,if_false]
   ·have c:(x.text.toList == z.text.toList)=false:=(by rw [qar];exact fun h=>b (km6 h));rw [c];simp only [Bool.not_false,qd,kh2,qb];show some (if kdv x.text z.text=true then (-1:Int) else 1)=_;cases f:kdv x.text z.text with
    | true=>rfl
    | false=>
     cases g:kdv z.text x.text with
     | true=>rfl
     | false=>exact absurd (kuo f g) b
  ·rw [show (x.num != z.num)=true by rw [bne_iff_ne];exact n0,qd,kh2];by_cases hl:x.num<z.num;rw [qk hl,qq hl];rfl
   ·rw [qi hl,ql hl,qq (show z.num<x.num by omega)];rfl
 ·rw [show (x.type != z.type)=true by rw [bne_iff_ne];exact t0,qd,kh2];by_cases hl:x.type<z.type;rw [qk hl,qq hl];rfl
  ·rw [qi hl,ql hl,qq (show z.type<x.type by omega)];rfl
theorem k14 (n:Nat) (x:Va):kan (n+2) x kd8=some (cmpV x kd8):=k0s n x kd8 rfl
theorem kx6 (x:Va):kdx x (Va.mk 0 0 ⟨#[]⟩ [])=some (eqV x kd8):=by unfold kdx;have:=k2v 18446744073709551615 x;rw [<- klc] at this;show Option.bind (kbv fuel x kd8) _=_;rw [this];simp only [qb,eqV];by_cases h:cmpV x kd8=0 <;> simp [h]
theorem km5 (x:Va):kbn x (Va.mk 0 0 ⟨#[]⟩ [])=some (eqV x kd8):=by unfold kbn;have:=k14 18446744073709551614 x;show Option.bind (kan fuel x kd8) _=_;rw [show fuel=18446744073709551614+2 from rfl,this];simp only [qb,eqV];by_cases h:cmpV x kd8=0 <;> simp [h]
def rkT (t:Int):Nat:=if t=7 then 3 else if t=5\/t=6 then 2 else 1
def inV (x:Va):Prop:=kho 9223372036854775807 x/\klz x
theorem kyz {x:Va} (h:inV x):x.items.length<=9223372036854775807/\x.text.size<=9223372036854775807/\∀ y∈x.items,inV y:=by obtain ⟨l1,l2⟩:=kih h.1;obtain ⟨s1,s2⟩:=ku3 h.2;exact ⟨l1,s1,fun y hy=>⟨l2 y hy,s2 y hy⟩⟩
theorem kte {k:Nat}:∀ {l:List Va},(∀ y∈l,depV y<=k)->kld l<=k
 | [],_=>qag _
 | y::l,h=>by simp only [kld];exact Nat.max_le.2 ⟨h y (q9 ..),kte fun z a=>h z (qu _ a)⟩
theorem kq7 {x:Va} {k:Nat} (h:∀ y∈x.items,depV y<=k):depV x<=k+1:=by
 cases x with
 | mk t n s l=>simp only [depV];exact Nat.succ_le_succ (kte h)
theorem kkb {x:Va} (h:((x.items.length:Int) == 0)=true):depV x<=1:=by
 refine kq7 fun y hy=>?_;have:x.items.length=0:=by have:=eq_of_beq h;omega
 rw [qan this] at hy;cases hy
theorem ku9:∀ n:Nat,(∀ x:Va,2*rkT x.type<=n->inV x->∃ c,kax n x=some c/\kal n x=some c/\(c=0->depV x<=rkT x.type)) /\
  (∀ (l:List Va) (t:Int),(t=2\/t=3)->3<=n->l.length<=9223372036854775807->(∀ x∈l,inV x)->∃ c,ke9 n l t=some c/\kcv n l t=some c/\(c=0->∀ x∈l,depV x<=1)) /\
  (∀ l:List Va,5<=n->l.length<=9223372036854775807->(∀ x∈l,inV x)->∃ c,kg5 n l=some c/\kdj n l=some c/\(c=0->∀ x∈l,depV x<=2))
 | 0=>⟨fun x h=>by unfold rkT at h;split at h <;> (try split at h) <;> omega,fun l t _ h=>by omega,fun l h=>by omega⟩
 | n+1=>by
  obtain ⟨ih1,ih2,ih3⟩:=ku9 n;refine ⟨fun x s m=>?_,fun l t ht s hl wl=>?_,fun l s hl wl=>?_⟩
  ·show ∃ c,kbj (kax n) (ke9 n) (kg5 n) x=some c/\kam (kal n) (kcv n) (kdj n) x=some c/\_;obtain ⟨lx,sx,wx⟩:=kyz m;have hS:=fun a b=>kwq x.text a b sx;have v:=fun a b=>kt5 x.text a b sx;by_cases h0:x.type<1;exact ⟨3,by simp [kbj,h0],by simp [kam,h0],fun h=>absurd h (by decide)⟩;by_cases w:8<x.type;exact ⟨3,by simp [kbj,h0,w],by simp [kam,h0,w],fun h=>absurd h (by decide)⟩;have ht:x.type=1\/x.type=2\/x.type=3\/x.type=4\/x.type=5\/x.type=6\/x.type=7\/x.type=8:=(by omega);have y:∀ t,(t=2\/t=3)->rkT x.type=2->∃ c,ke9 n x.items t=some c/\kcv n x.items t=some c/\(c=0->depV x<=2):=fun t h1 z=>(by obtain ⟨c,e1,e2,e3⟩:=ih2 x.items t h1 (by omega) lx wx;exact ⟨c,e1,e2,fun h=>kq7 (e3 h)⟩);have A:rkT x.type=3->∃ c,kg5 n x.items=some c/\kdj n x.items=some c/\(c=0->depV x<=3):=fun z=>(by obtain ⟨c,e1,e2,e3⟩:=ih3 x.items (by omega) lx wx;exact ⟨c,e1,e2,fun h=>kq7 (e3 h)⟩);have hp:=k6b x.items;cases e:(x.text.toList == (⟨#[]⟩:BA).toList) <;> cases hm:(x.num == 0) <;> cases hl:((x.items.length:Int) == 0) <;> rw [hl] at hp <;>
    rcases ht with ht | ht | ht | ht | ht | ht | ht | ht <;>
    first
     | (refine ⟨4,?_,?_,fun h=>absurd h (by decide)⟩;rotate_left;(simp only [kam,ht,e,hm,hp,bne];simp);(simp only [kbj,kcy,ht,e,hm,hl];simp))
     | (obtain ⟨c,e1,e2⟩:=kln x.num 0 1;refine ⟨c,?_,?_,fun _=>by rw [ht];exact kkb hl⟩;rotate_left;(simp only [kam,ht,e,hm,hp,bne];simp [e2]);(simp only [kbj,kcy,ht,e,hm,hl];simp [e1]))
     | (obtain ⟨c,e1,e2⟩:=kln x.num (-1000000) 1000000;refine ⟨c,?_,?_,fun _=>by rw [ht];exact kkb hl⟩;rotate_left;(simp only [kam,ht,e,hm,hp,bne];simp [e2]);(simp only [kbj,kcy,ht,e,hm,hl];simp [e1]))
     | (obtain ⟨c,e1,e2⟩:=kln x.num 0 255;refine ⟨c,?_,?_,fun _=>by rw [ht];exact kkb hl⟩;rotate_left;(simp only [kam,ht,e,hm,hp,bne];simp [e2]);(simp only [kbj,kcy,ht,e,hm,hl];simp [e1]))
     | (obtain ⟨c,e1⟩:=hS 0 64;refine ⟨c,?_,?_,fun _=>by rw [ht];exact kkb hl⟩;rotate_left;(simp only [kam,ht,e,hm,hp,bne];simp [v,e1]);(simp only [kbj,kcy,ht,e,hm,hl];simp [e1]))
     | (obtain ⟨c,e1⟩:=hS 1 40;refine ⟨c,?_,?_,fun _=>by rw [ht];exact kkb hl⟩;rotate_left;(simp only [kam,ht,e,hm,hp,bne];simp [v,e1]);(simp only [kbj,kcy,ht,e,hm,hl];simp [e1]))
     | (obtain ⟨c,e1,e2,e3⟩:=y 2 (.inl rfl) (by rw [ht];rfl);refine ⟨c,?_,?_,fun h=>by rw [ht];exact e3 h⟩;rotate_left;(simp only [kam,ht,e,hm,hp,bne];simp [e2]);(simp only [kbj,kcy,ht,e,hm,hl];simp [e1]))
     | (obtain ⟨c,e1,e2,e3⟩:=y 3 (.inr rfl) (by rw [ht];rfl);refine ⟨c,?_,?_,fun h=>by rw [ht];exact e3 h⟩;rotate_left;(simp only [kam,ht,e,hm,hp,bne];simp [e2]);(simp only [kbj,kcy,ht,e,hm,hl];simp [e1]))
     | (obtain ⟨c,e1,e2,e3⟩:=A (by rw [ht];rfl);refine ⟨c,?_,?_,fun h=>by rw [ht];exact e3 h⟩;rotate_left;(simp only [kam,ht,e,hm,hp,bne];simp [e2]);(simp only [kbj,kcy,ht,e,hm,hl];simp [e1]))
  ·show ∃ c,ken (kax n) (ke9 n) (kg5 n) l t=some c/\kca (kal n) (kcv n) (kdj n) l t=some c/\_;by_cases d:(16:Int)<(l.length:Int);exact ⟨2,by simp only [ken,qk d,qd],by simp only [kca,qk d,qd],fun h=>absurd h (by decide)⟩
   ·have o:rkT t=1:=(by rcases ht with rfl | rfl <;> rfl);have hst:∀ (i:Nat) (hi:i<l.length),(kaw l t (kax n) (i:Int)=some (.inl ((i+1:Nat):Int))/\kaz l t (kal n) (i:Int)=some (.inl ((i+1:Nat):Int))/\depV l[i]<=1) \/
      ∃ c,c≠0/\kaw l t (kax n) (i:Int)=some (.inr (.inr c))/\kaz l t (kal n) (i:Int)=some (.inr (.inr c)):=fun i hi=>by
     have e1:l[i]?=some l[i]:=qa hi;have b1:decide ((i:Int)<(l.length:Int))=true:=qk (by omega);have p:=kch (n:=i) (by omega);cases ht:(l[i].type != t) with
     | true=>exact .inr ⟨3,by decide,by simp only [kaw,b1,kaj,e1,ht,qd,qb],by simp only [kaz,b1,kaj,e1,ht,qd,qb]⟩
     | false=>
      have g:l[i].type=t:=(by rwa [qbc] at ht);obtain ⟨c,k1,k2,k3⟩:=ih1 l[i] (by rw [g,o];omega) (wl _ (qs hi));rw [g,o] at k3;cases hc:(c != 0) with
      | true=>exact .inr ⟨c,by simpa using hc,by simp only [kaw,b1,kaj,e1,ht,k1,hc,qd,qe,qb],by simp only [kaz,b1,kaj,e1,ht,k2,hc,qd,qe,qb]⟩
      | false=>exact .inl ⟨by simp only [kaw,b1,kaj,e1,ht,k1,hc,p,qd,qe,qb],by simp only [kaz,b1,kaj,e1,ht,k2,hc,p,qd,qe,qb],k3 (by rwa [qbc] at hc)⟩
    obtain ⟨r,e1,e2⟩:=kh3 (step:=kaw l t (kax n)) (step':=kaz l t (kal n)) l.length (by omega) (fun i=>(i:Int)) (fun i hi=>by
     rcases hst i hi with ⟨a1,a2,_⟩ | ⟨c,_,a1,a2⟩;exact .inl ⟨a1,a2⟩
     ·exact .inr ⟨_,a1,a2⟩) (.inl ()) (by simp [kaw]) (by simp [kaz])
    have e1':kac (kaw l t (kax n)) fuel 0=some r:=(by simpa using e1);have e2':kac (kaz l t (kal n)) fuel 0=some r:=(by simpa using e2);have j:∀ c:Int,r = .inr c->c≠0:=fun c hr=>by
     obtain ⟨r2,r3,f1,f2,f3⟩:=kgw (step:=kaw l t (kax n)) (step':=kaw l t (kax n)) l.length (by omega) (fun i=>(i:Int)) (fun i=>(i:Int)) (fun r r'=>∀ c,r = .inr c->c≠0) (fun i hi=>by
      rcases hst i hi with ⟨a1,a2,_⟩ | ⟨c,h0,a1,a2⟩;exact .inl ⟨a1,a1⟩
      ·exact .inr ⟨_,_,a1,a1,fun c' h=>by cases h;exact h0⟩) ⟨.inl (), .inl (),by simp [kaw],by simp [kaw],fun c h=>by cases h⟩
     have f1':kac (kaw l t (kax n)) fuel 0=some r2:=(by simpa using f1);rw [e1'] at f1';cases f1';exact f3 c hr
    refine ⟨Sum.elim (fun _=>0) id r,?_,?_,fun h0=>?_⟩;simp only [ken,qi d,qe,e1',qb];cases r <;> rfl;simp only [kca,qi d,qe,e2',qb];cases r <;> rfl
    ·cases r with
     | inr c=>exact absurd h0 (j c rfl)
     | inl u=>
      intro x m;obtain ⟨i,hi,rfl⟩:=qac.1 m;have f:=kms (step:=kaw l t (kax n)) l.length (fun i=>(i:Int)) (.inl u) (fun i hi=>by
       rcases hst i hi with ⟨a1,a2,_⟩ | ⟨c,_,a1,a2⟩;exact .inl a1
       ·exact .inr ⟨_,a1,fun h=>by cases h⟩) fuel 0 e1' i (qag _) hi
      rcases hst i hi with ⟨_,_,h⟩ | ⟨c,_,a1,_⟩;exact h
      ·rw [a1] at f;cases f
  ·show ∃ c,kf8 (kax n) (ke9 n) (kg5 n) l=some c/\kc4 (kal n) (kcv n) (kdj n) l=some c/\_;by_cases d:(8:Int)<(l.length:Int);exact ⟨2,by simp only [kf8,qk d,qd],by simp only [kc4,qk d,qd],fun h=>absurd h (by decide)⟩
   ·have hst:∀ (i:Nat) (hi:i<l.length),(ka8 l (kax n) (i:Int)=some (.inl ((i+1:Nat):Int))/\ka5 l (kal n) (i:Int)=some (.inl ((i+1:Nat):Int))/\depV l[i]<=2) \/
      ∃ c,c≠0/\ka8 l (kax n) (i:Int)=some (.inr (.inr c))/\ka5 l (kal n) (i:Int)=some (.inr (.inr c)):=fun i hi=>by
     have e1:l[i]?=some l[i]:=qa hi;have e0:idx l 0=some (l[0]'(by omega)):=(by rw [show (0:Int)=((0:Nat):Int) from rfl,kaj,qa]);have b1:decide ((i:Int)<(l.length:Int))=true:=qk (by omega);have p:=kch (n:=i) (by omega);cases ht:(l[i].type != 6) with
     | true=>exact .inr ⟨3,by decide,by simp only [ka8,b1,kaj,e1,ht,qd,qb],by simp only [ka5,b1,kaj,e1,ht,qd,qb]⟩
     | false=>
      have g:l[i].type=6:=(by rwa [qbc] at ht);obtain ⟨c,k1,k2,k3⟩:=ih1 l[i] (by rw [g];show 2*2<=n;omega) (wl _ (qs hi));rw [g] at k3;obtain ⟨q,k⟩:∃ q,(bif decide ((l[i].items.length:Int)<1) then some true else bif decide (8<(l[i].items.length:Int)) then some true else (some ((l[i].items.length:Int) != ((l[0]'(by omega)).items.length:Int)):Option Bool))=some q:=(by cases decide ((l[i].items.length:Int)<1) <;> cases decide (8<(l[i].items.length:Int)) <;> exact ⟨_,rfl⟩);cases q with
      | true=>exact .inr ⟨2,by decide,by simp only [ka8,b1,kaj,e1,e0,ht,k,qd,qe,qb],by simp only [ka5,b1,kaj,e1,e0,ht,k,qd,qe,qb]⟩
      | false=>
       cases hc:(c != 0) with
       | true=>exact .inr ⟨c,by simpa using hc,by simp only [ka8,b1,kaj,e1,e0,ht,k,k1,hc,qd,qe,qb],by simp only [ka5,b1,kaj,e1,e0,ht,k,k2,hc,qd,qe,qb]⟩
       | false=>exact .inl ⟨by simp only [ka8,b1,kaj,e1,e0,ht,k,k1,hc,p,qd,qe,qb],by simp only [ka5,b1,kaj,e1,e0,ht,k,k2,hc,p,qd,qe,qb],k3 (by rwa [qbc] at hc)⟩
    obtain ⟨r,e1,e2⟩:=kh3 (step:=ka8 l (kax n)) (step':=ka5 l (kal n)) l.length (by omega) (fun i=>(i:Int)) (fun i hi=>by
     rcases hst i hi with ⟨a1,a2,_⟩ | ⟨c,_,a1,a2⟩;exact .inl ⟨a1,a2⟩
     ·exact .inr ⟨_,a1,a2⟩) (.inl ()) (by simp [ka8]) (by simp [ka5])
    have e1':kac (ka8 l (kax n)) fuel 0=some r:=(by simpa using e1);have e2':kac (ka5 l (kal n)) fuel 0=some r:=(by simpa using e2);have j:∀ c:Int,r = .inr c->c≠0:=fun c hr=>by
     obtain ⟨r2,r3,f1,f2,f3⟩:=kgw (step:=ka8 l (kax n)) (step':=ka8 l (kax n)) l.length (by omega) (fun i=>(i:Int)) (fun i=>(i:Int)) (fun r r'=>∀ c,r = .inr c->c≠0) (fun i hi=>by
      rcases hst i hi with ⟨a1,a2,_⟩ | ⟨c,h0,a1,a2⟩;exact .inl ⟨a1,a1⟩
      ·exact .inr ⟨_,_,a1,a1,fun c' h=>by cases h;exact h0⟩) ⟨.inl (), .inl (),by simp [ka8],by simp [ka8],fun c h=>by cases h⟩
     have f1':kac (ka8 l (kax n)) fuel 0=some r2:=(by simpa using f1);rw [e1'] at f1';cases f1';exact f3 c hr
    refine ⟨Sum.elim (fun _=>0) id r,?_,?_,fun h0=>?_⟩;simp only [kf8,qi d,qe,e1',qb];cases r <;> rfl;simp only [kc4,qi d,qe,e2',qb];cases r <;> rfl
    ·cases r with
     | inr c=>exact absurd h0 (j c rfl)
     | inl u=>
      intro x m;obtain ⟨i,hi,rfl⟩:=qac.1 m;have f:=kms (step:=ka8 l (kax n)) l.length (fun i=>(i:Int)) (.inl u) (fun i hi=>by
       rcases hst i hi with ⟨a1,a2,_⟩ | ⟨c,_,a1,a2⟩;exact .inl a1
       ·exact .inr ⟨_,a1,fun h=>by cases h⟩) fuel 0 e1' i (qag _) hi
      rcases hst i hi with ⟨_,_,h⟩ | ⟨c,_,a1,_⟩;exact h
      ·rw [a1] at f;cases f
theorem kzx (t:Int):rkT t<=3:=by unfold rkT;split <;> (try split) <;> omega
theorem kvl {x:Va} (a:inV x):∃ c,kax fuel x=some c/\kal fuel x=some c/\(c=0->okV x):=by have b:2*rkT x.type<=fuel:=qap (Nat.mul_le_mul_left 2 (kzx x.type)) (by decide);obtain ⟨c,h1,d,e⟩:=(ku9 fuel).1 x b a;exact ⟨c,h1,d,fun h=>⟨by have:=e h;have:=kzx x.type;omega,a.1⟩⟩
def kqj (r:Ru):Prop:=r.args.length<=9223372036854775807/\inV r.const
theorem ktv {x:Va} (h:eqV x kd8=true):x=kd8:=k4s x kd8 (by simpa [eqV] using h)
theorem k7y (l:La) (r:Ru) (hr:kqj r):∃ c,kf6 l r=some c/\kce l r=some c:=by obtain ⟨c,h1,a,_⟩:=kvl hr.2;exact k2f l r hr.1 (km5 _) (kx6 _) ⟨c,h1,a⟩
structure GoodR (l:La) (r:Ru):Prop where
 sym0:0<=r.symbol
 sym1:r.symbol<(l.symbols.length:Int)
 kind:r.kind=1\/r.kind=2\/r.kind=3
 noargs:r.kind≠3->r.args=[]
 args:∀ a∈r.args,0<=a/\a<(l.symbols.length:Int)
 few:r.args.length<=5
 fine:okV r.const
theorem kga {α:Type} {b:Bool} {x y:Option α} {r:α} (h:(bif b then x else y)=some r):(b=true/\x=some r)\/(b=false/\y=some r):=by
 cases b;exact .inr ⟨rfl,h⟩
 ·exact .inl ⟨rfl,h⟩
theorem kf4 {α β:Type} {E:Option α} {K:α->Option β} {r:β} (h:Option.bind E K=some r):∃ v,E=some v/\K v=some r:=qx.1 h
theorem kt8:opNames.all (fun n=>(kby n).all fun o=>decide (o.1.f_Args.length<=5))=true:=by kernel_rfl
theorem k0p {s:BA} {o:Sab×Bool} (h:kby s=some o) (b:o.2=true):o.1.f_Args.length<=5:=by
 by_cases a:s∈opNames;have:=qo.1 kt8 s a;rw [h] at this;simpa using this
 ·rw [(kr0 s a).2] at h;cases h;cases b
theorem kyh {l:La} {r:Ru} (ha:r.args.length<=9223372036854775807) (h:kcj l r=some 0):r.args.length<=5/\∀ a∈r.args,0<=a/\a<(l.symbols.length:Int):=by
 unfold kcj at h;obtain ⟨o,h1,h⟩:=kf4 h;rcases kga h with ⟨_,h⟩ | ⟨g,h⟩;cases h;rcases kga h with ⟨_,h⟩ | ⟨j,h⟩;cases h;have f:r.args.length=o.1.f_Args.length:=by have:=qbc.1 j;omega
 have q:=k0p h1 (by simpa using g);obtain ⟨v,k,h⟩:=kf4 h;refine ⟨by omega,fun a d=>?_⟩;have hst:∀ i,i<r.args.length->kav l r o (i:Int)=some (.inl ((i+1:Nat):Int))/\(∀ x,r.args[i]?=some x->0<=x/\x<(l.symbols.length:Int))\/∃ c,c≠0/\kav l r o (i:Int)=some (.inr (.inr c)):=fun i hi=>by
  have e1:r.args[i]?=some r.args[i]:=qa hi;have e:i<o.1.f_Args.length:=by omega
  have e2:o.1.f_Args[i]?=some o.1.f_Args[i]:=qa e;have b1:decide ((i:Int)<(r.args.length:Int))=true:=qk (by omega);simp only [kav,b1,qd,kaj,e1,e2,qb,kch (n:=i) (by omega)];by_cases h0:0<=r.args[i]
  ·by_cases h1:r.args[i]<(l.symbols.length:Int)
   ·obtain ⟨x,m,_⟩:=kn7 h0 h1;rw [qi (show ¬ r.args[i]<0 by omega),qi (show ¬ (l.symbols.length:Int)<=r.args[i] by omega)];simp only [qe,qb,m];cases x.type != o.1.f_Args[i] with
    | true=>exact .inr ⟨3,by decide,rfl⟩
    | false=>exact .inl ⟨rfl,fun y hy=>by cases hy;exact ⟨h0,h1⟩⟩
   ·rw [qi (show ¬ r.args[i]<0 by omega),qk (show (l.symbols.length:Int)<=r.args[i] by omega)];exact .inr ⟨1,by decide,rfl⟩
  ·rw [qk (show r.args[i]<0 by omega)];exact .inr ⟨1,by decide,rfl⟩
 obtain ⟨i,hi,rfl⟩:=qac.1 d;have hv:∀ c:Int,c≠0->(.inr c:Unit ⊕ Int)≠v:=fun c hc p=>by subst p;cases h;exact hc rfl
 have b:=kms (step:=kav l r o) r.args.length (fun i=>(i:Int)) v (fun i hi=>by
  rcases hst i hi with ⟨a1,_⟩ | ⟨c,hc,a1⟩;exact .inl a1
  ·exact .inr ⟨_,a1,hv c hc⟩) fuel 0 k i (qag _) hi
 rcases hst i hi with ⟨_,a2⟩ | ⟨c,_,a1⟩;exact a2 _ (qa hi)
 ·rw [a1] at b;cases b
theorem len0 {α:Type} {xs:List α} (h:((xs.length:Int) == 0)=true):xs=[]:=qan (by have:=eq_of_beq h;omega)
theorem k0e {l:La} {r:Ru} (hr:kqj r) (h:kce l r=some 0):GoodR l r:=by
 unfold kce at h;obtain ⟨b1,h1,h⟩:=kf4 h;rcases kga h with ⟨_,h⟩ | ⟨k,h⟩;cases h;subst k;have hs:0<=r.symbol/\r.symbol<(l.symbols.length:Int):=by
  rcases kga h1 with ⟨_,h1⟩ | ⟨q,h1⟩;cases h1
  ·have q:=of_decide_eq_false q;have q2:=of_decide_eq_false (qab h1);omega
 obtain ⟨b2,f,h⟩:=kf4 h;rcases kga h with ⟨_,h⟩ | ⟨m,h⟩;cases h;subst m;rcases kga f with ⟨_,f⟩ | ⟨q1,f⟩;cases f;rcases kga f with ⟨_,f⟩ | ⟨q2,f⟩;cases f;have q1:=of_decide_eq_false q1;have q2:=of_decide_eq_false q2;obtain ⟨z,g,n⟩:=kf4 f;have o:z=true:=by
  cases z with
  | true=>rfl
  | false=>cases n
 subst o;obtain ⟨x,p,h⟩:=kf4 h;unfold kc0 at g;rw [km5,qb] at g;have hk:r.kind=1\/r.kind=2\/r.kind=3:=by omega
 have okz:eqV r.const kd8=true->okV r.const:=fun h=>by rw [ktv h];exact kpk
 rcases hk with hk | hk | hk
 ·have c1:(r.kind == 1)=true:=by rw [hk];rfl
  rw [c1,qd] at g;obtain ⟨b,d,i⟩:=kf4 g;cases i;rcases kga d with ⟨e1,d⟩ | ⟨_,d⟩
  ·rcases kga d with ⟨e2,d⟩ | ⟨_,d⟩;have ha:=len0 (qab d);exact ⟨hs.1,hs.2, .inl hk,fun _=>ha,by rw [ha];intro a h;(cases h),by rw [ha];exact qag _,okz e1⟩
   ·cases d
  ·cases d
 ·have c1:(r.kind == 1)=false:=by rw [hk];rfl
  have c2:(r.kind == 2)=true:=by rw [hk];rfl
  rw [c1,qe,c2,qd] at g;rw [c1,qe,c2,qd] at h;obtain ⟨b,d,i⟩:=kf4 g;cases i;obtain ⟨c,g1,g2⟩:=kf4 h;have hc:c=0:=by
   rcases kga g2 with ⟨e,g2⟩ | ⟨e,g2⟩;cases g2;rfl
   ·exact qbc.1 e
  obtain ⟨c',f1,f2,f3⟩:=kvl hr.2;have j:c'=0:=by rw [f2] at g1;cases g1;exact hc
  rcases kga d with ⟨e1,d⟩ | ⟨_,d⟩
  ·rcases kga d with ⟨e2,d⟩ | ⟨_,d⟩;have ha:=len0 (qab d);exact ⟨hs.1,hs.2, .inr (.inl hk),fun _=>ha,by rw [ha];intro a h;(cases h),by rw [ha];exact qag _,f3 j⟩
   ·cases d
  ·cases d
 ·have c1:(r.kind == 1)=false:=by rw [hk];rfl
  have c2:(r.kind == 2)=false:=by rw [hk];rfl
  rw [c1,qe,c2,qe] at g;rw [c1,qe,c2,qe] at h;obtain ⟨b,d,i⟩:=kf4 g;cases i;obtain ⟨c,g1,g2⟩:=kf4 h;cases g2;obtain ⟨a1,a2⟩:=kyh hr.1 g1;rcases kga d with ⟨e1,d⟩ | ⟨_,d⟩;exact ⟨hs.1,hs.2, .inr (.inr hk),fun h=>absurd hk h,a2,a1,okz (qab d)⟩
  ·cases d
theorem GoodR.fineR {l:La} {r:Ru} (h:GoodR l r) (hr:kqj r):fineR r:=⟨by have:=h.few;omega,h.fine,hr.2.2⟩
structure koo (l:La):Prop where
 name:l.name.size<=9223372036854775807
 inputs:l.inputs.length<=9223372036854775807
 symbols:l.symbols.length<=9223372036854775807
 rules:l.rules.length<=9223372036854775807
 names:∀ x∈l.symbols,x.name.size<=9223372036854775807
 wide:∀ r∈l.rules,kqj r
structure km0 (l:La):Prop where
 inputs:l.inputs.length<=4
 sym1:1<=l.symbols.length
 sym16:l.symbols.length<=16
 rules:l.rules.length<=96
 good:∀ r∈l.rules,GoodR l r
theorem k5d (l:La) (h:koo l):∃ r,kac (kbe l) fuel 0=some r/\kac (kap l) fuel 0=some r/\(r = .inl ()->∀ x∈l.rules,GoodR l x)/\(∀ e,r = .inr e->e≠0):=by
 have hl:=h.rules;have w:∀ n,n<=l.rules.length->(∃ i,i<n/\∃ e,e≠0/\(∀ j,j<i->kbe l (j:Int)=some (.inl ((j+1:Nat):Int))/\kap l (j:Int)=some (.inl ((j+1:Nat):Int)))/\kbe l (i:Int)=some (.inr (.inr e))/\kap l (i:Int)=some (.inr (.inr e))) \/
   ((∀ j,j<n->kbe l (j:Int)=some (.inl ((j+1:Nat):Int))/\kap l (j:Int)=some (.inl ((j+1:Nat):Int)))/\∀ j (a:j<l.rules.length),j<n->GoodR l l.rules[j]):=by
  intro n
  induction n with
  | zero=>intro _;exact .inr ⟨fun j a=>by omega,fun j _ a=>by omega⟩
  | succ n ih=>
   intro hn;rcases ih (by omega) with ⟨i,hi,e,o,p⟩ | ⟨g1,g2⟩;exact .inl ⟨i,by omega,e,o,p⟩
   ·have hi:n<l.rules.length:=(by omega);have e1:l.rules[n]?=some l.rules[n]:=qa hi;have b1:decide ((n:Int)<(l.rules.length:Int))=true:=qk (by omega);have q:=h.wide _ (qs hi);obtain ⟨c,c1,c2⟩:=k7y l l.rules[n] q;by_cases hc:c=0
    ·subst hc;have v:=k0e q c2;have m:∀ j (a:j<l.rules.length),j<=n->fineR l.rules[j]:=fun j a g=>by
      have s:=h.wide _ (qs a);by_cases d:j=n;subst d;exact v.fineR q
      ·exact (g2 j a (by omega)).fineR s
     obtain ⟨b,d1,d2⟩:=k2u l n hi hl m;cases b with
     | true=>
      refine .inl ⟨n,by omega,6,by decide,g1,?_,?_⟩;simp only [kbe,b1,qd,kaj,e1,qb,c1,ks8 l.rules n (by omega),d1];rfl
      ·simp only [kap,b1,qd,kaj,e1,qb,c2,d2];rfl
     | false=>
      refine .inr ⟨fun j a=>?_,fun j a g=>?_⟩
      ·by_cases g:j=n
       ·subst g;constructor;simp only [kbe,b1,qd,kaj,e1,qb,c1,ks8 l.rules j (by omega),d1,kch (n:=j) (by omega)];rfl
        ·simp only [kap,b1,qd,kaj,e1,qb,c2,d2,kch (n:=j) (by omega)];rfl
       ·exact g1 j (by omega)
      ·by_cases d:j=n;subst d;exact v
       ·exact g2 j a (by omega)
    ·refine .inl ⟨n,by omega,c,hc,g1,?_,?_⟩;simp only [kbe,b1,qd,kaj,e1,qb,c1,show (c != 0)=true by simpa using hc]
     ·simp only [kap,b1,qd,kaj,e1,qb,c2,show (c != 0)=true by simpa using hc]
 have f:kbe l (l.rules.length:Int)=some (.inr (.inl ()))/\kap l (l.rules.length:Int)=some (.inr (.inl ())):=by have b1:decide ((l.rules.length:Int)<(l.rules.length:Int))=false:=qi (by omega);simp only [kbe,kap,b1,qe,and_self]
 rcases w l.rules.length (qy _) with ⟨i,hi,e,o,a,a1,a2⟩ | ⟨g1,g2⟩;obtain ⟨r,r',h1,t,rfl,u⟩:=kgw (step:=kbe l) (step':=kap l) i (by omega) (fun i=>(i:Int)) (fun i=>(i:Int)) (fun r r'=>r=r'/\r = .inr e) (fun j k => .inl (a j k)) ⟨_,_,a1,a2,rfl,rfl⟩;subst u;exact ⟨_,by simpa using h1,by simpa using t,(fun h=>by cases h),fun e' h=>by cases h;exact o⟩
 ·obtain ⟨r,r',h1,t,rfl,u⟩:=kgw (step:=kbe l) (step':=kap l) l.rules.length (by omega) (fun i=>(i:Int)) (fun i=>(i:Int)) (fun r r'=>r=r'/\r = .inl ()) (fun j k => .inl (g1 j k)) ⟨_,_,f.1,f.2,rfl,rfl⟩;subst u;refine ⟨_,by simpa using h1,by simpa using t,fun _ x p=>?_,fun e' h=>by cases h⟩;obtain ⟨i,hi,rfl⟩:=qac.1 p;exact g2 i hi hi
theorem k6x (l:La) (h:koo l):∃ c,kgl l=some c/\kd6 l=some c/\(c=0->km0 l):=by
 obtain ⟨b,n1,n2⟩:=kp5 l.name h.name;obtain ⟨r1,i1,i2,i3⟩:=kuy l h.inputs;obtain ⟨r2,s1,s2,s3⟩:=ktw l h.symbols h.names;obtain ⟨r3,t1,t2,t3,t4⟩:=k5d l h;have a:∀ c:Int,c≠0->(c=0->km0 l):=fun c hc h=>absurd h hc;unfold kgl kd6;rw [n1,n2];simp only [qb];cases b with
 | false=>exact ⟨5,rfl,rfl,a 5 (by decide)⟩
 | true=>
  simp only [qa9,qe];cases f:decide (4<(l.inputs.length:Int)) with
  | true=>exact ⟨2,rfl,rfl,a 2 (by decide)⟩
  | false=>
   have f:=of_decide_eq_false f;simp only [qe,i1,i2,qb];cases r1 with
   | inr e=>exact ⟨e,rfl,rfl,a e (i3 e rfl)⟩
   | inl u=>
    simp only [qf];have hc:(bif decide ((l.symbols.length:Int)<1) then some true else some (decide (16<(l.symbols.length:Int))):Option Bool)=some (decide ((l.symbols.length:Int)<1) || decide (16<(l.symbols.length:Int))):=(by cases decide ((l.symbols.length:Int)<1) <;> rfl);rw [hc,qb,qb];cases d:decide ((l.symbols.length:Int)<1) || decide (16<(l.symbols.length:Int)) with
    | true=>exact ⟨2,rfl,rfl,a 2 (by decide)⟩
    | false=>
     rw [Bool.or_eq_false_iff] at d;have hs1:=of_decide_eq_false d.1;have i:=of_decide_eq_false d.2;simp only [qe,s1,s2,qb];cases r2 with
     | inr e=>exact ⟨e,rfl,rfl,a e (s3 e rfl)⟩
     | inl u=>
      simp only [qf];cases g:decide (96<(l.rules.length:Int)) with
      | true=>exact ⟨2,rfl,rfl,a 2 (by decide)⟩
      | false=>
       have g:=of_decide_eq_false g;simp only [qe,t1,t2,qb];cases r3 with
       | inr e=>exact ⟨e,rfl,rfl,a e (t4 e rfl)⟩
       | inl u=>exact ⟨0,rfl,rfl,fun _=>⟨by omega,by omega,by omega,by omega,t3 rfl⟩⟩
end Go.Proofs.YtpnnpkmjohkgiaaGreatDoor
