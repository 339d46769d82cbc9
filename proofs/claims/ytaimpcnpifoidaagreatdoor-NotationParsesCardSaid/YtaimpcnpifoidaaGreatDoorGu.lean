import Derived.Test.YtaimpcnpifoidaaGreatDoorGa
set_option linter.all false
namespace Go.Proofs.YtaimpcnpifoidaaGreatDoor
open Go Go.RowKit
theorem kage (n:Nat) (x z:Va) (b:z.items=[]):kdp (n+1) x z=some (cmpV x z):=by
 show khz (kdp n) x z=_;rw [kv3];unfold khz;by_cases h1:x.type<z.type;rw [qe h1,qj h1];rfl;rw [qb h1,qg h1,qd];by_cases h2:z.type<x.type;rw [qe h2,qj h2];rfl;rw [qb h2,qg h2,qd];by_cases h3:x.num<z.num;rw [qe h3,qj h3];rfl;rw [qb h3,qg h3,qd];by_cases a:z.num<x.num;rw [qe a,qj a];rfl;rw [qb a,qg a,qd,k34];show (bif kho x.text z.text then _ else bif kho z.text x.text then _ else _)=_;cases c:kho x.text z.text with
 | true=>rfl
 | false=>
  cases d:kho z.text x.text with
  | true=>rfl
  | false=>
   simp only [qd,qbc,qa4];cases hi:x.items with
   | nil=>
    have:kaa (kcm x z (kdp n)) fuel 0=some (.inl ()):=(by rw [knj,kaa];simp [kcm,hi]);rw [this,b];simp [kiv]
   | cons y l=>
    have:kaa (kcm x z (kdp n)) fuel 0=some (.inr 1):=(by rw [knj,kaa];have e:idx (y::l) 0=some y:=kak (y::l) 0;simp [kcm,hi,e,b]);rw [this,b];simp [kiv]
theorem kaie (n:Nat) (x:Va):kdp (n+1) x kcw=some (cmpV x kcw):=kage n x kcw rfl
theorem kaa6 (n:Nat) (l:List Va):kdf (n+1) l []=some (if l.length=0 then 0 else 1):=by
 show kct (kbf n) (kdf n) l []=_;have:kaa (kbl l [] (kbf n)) fuel 0=some (.inl ()):=by rw [knj,kaa];cases l <;> simp [kbl]
 unfold kct;rw [this];cases l with
 | nil=>simp
 | cons y l=>
  have h1:((((y::l).length:Nat):Int) == (([]:List Va).length:Int))=false:=by rw [qae,qu,qaf];omega
  have h2:decide ((((y::l).length:Nat):Int)<(([]:List Va).length:Int))=false:=qb (by rw [qu,qaf];omega);simp only [qa,qh,h1,h2,qd,ko7];rfl
theorem kah9 (n:Nat) (x z:Va) (c:z.items=[]):kbf (n+2) x z=some (cmpV x z):=by
 show kdq (kbf (n+1)) (kdf (n+1)) x z=_;rw [kv3];unfold kdq;have d:kiv x.items []=if x.items.length=0 then 0 else 1:=by cases x.items <;> rfl
 have a:=kaa6 n x.items;rw [c,d,a];by_cases t0:x.type=z.type
 ·rw [show (x.type != z.type)=false by rw [qap];exact t0,qd,qg (show ¬ x.type<z.type by omega),qg (show ¬ z.type<x.type by omega)];by_cases n0:x.num=z.num
  ·rw [show (x.num != z.num)=false by rw [qap];exact n0,qd,qg (show ¬ x.num<z.num by omega),qg (show ¬ z.num<x.num by omega)];by_cases b:x.text=z.text;rw [b,show (z.text.toList == z.text.toList)=true from qbr _];simp only [qab,qd,qa,k1o,qbc,qa4]
   ·have hne:(x.text.toList == z.text.toList)=false:=(by rw [qae];exact fun h=>b (kkn h));rw [hne];simp only [qbb,qf,ko7,qa];show some (if kho x.text z.text=true then (-1:Int) else 1)=_;cases e:kho x.text z.text with
    | true=>rfl
    | false=>
     cases f:kho z.text x.text with
     | true=>rfl
     | false=>exact absurd (k6w e f) b
  ·rw [show (x.num != z.num)=true by rw [qbl];exact n0,qf,ko7];by_cases hl:x.num<z.num;rw [qe hl,qj hl];rfl
   ·rw [qb hl,qg hl,qj (show z.num<x.num by omega)];rfl
 ·rw [show (x.type != z.type)=true by rw [qbl];exact t0,qf,ko7];by_cases hl:x.type<z.type;rw [qe hl,qj hl];rfl
  ·rw [qb hl,qg hl,qj (show z.type<x.type by omega)];rfl
theorem kaiq (n:Nat) (x:Va):kbf (n+2) x kcw=some (cmpV x kcw):=kah9 n x kcw rfl
theorem kabn (x:Va):kg1 x (Va.mk 0 0 ⟨#[]⟩ [])=some (eqV x kcw):=by unfold kg1;have:=kaie 18446744073709551615 x;rw [<- knj] at this;show Option.bind (kdp fuel x kcw) _=_;rw [this];simp only [qa,eqV];by_cases h:cmpV x kcw=0 <;> simp [h]
theorem krx (x:Va):kcd x (Va.mk 0 0 ⟨#[]⟩ [])=some (eqV x kcw):=by unfold kcd;have:=kaiq 18446744073709551614 x;show Option.bind (kbf fuel x kcw) _=_;rw [show fuel=18446744073709551614+2 from rfl,this];simp only [qa,eqV];by_cases h:cmpV x kcw=0 <;> simp [h]
def rkT (t:Int):Nat:=if t=7 then 3 else if t=5\/t=6 then 2 else 1
def inV (x:Va):Prop:=kjo 9223372036854775807 x/\kvb x
theorem k3y {x:Va} (h:inV x):x.items.length<=9223372036854775807/\x.text.size<=9223372036854775807/\∀ y∈x.items,inV y:=by obtain ⟨l1,l2⟩:=kpg h.1;obtain ⟨s1,s2⟩:=k8r h.2;exact ⟨l1,s1,fun y a=>⟨l2 y a,s2 y a⟩⟩
theorem k7h {k:Nat}:∀ {l:List Va},(∀ y∈l,depV y<=k)->kt8 l<=k
 | [],_=>qz _
 | y::l,h=>by simp only [kt8];exact Nat.max_le.2 ⟨h y (qt ..),k7h fun z a=>h z (qn _ a)⟩
theorem kqp {x:Va} {k:Nat} (h:∀ y∈x.items,depV y<=k):depV x<=k+1:=by
 cases x with
 | mk t n s l=>simp only [depV];exact Nat.succ_le_succ (k7h h)
theorem ktl {x:Va} (h:((x.items.length:Int) == 0)=true):depV x<=1:=by
 refine kqp fun y a=>?_;have:x.items.length=0:=by have:=eq_of_beq h;omega
 rw [qar this] at a;cases a
theorem k29:∀ n:Nat,(∀ x:Va,2*rkT x.type<=n->inV x->∃ c,kah n x=some c/\ka5 n x=some c/\(c=0->depV x<=rkT x.type)) /\
  (∀ (l:List Va) (t:Int),(t=2\/t=3)->3<=n->l.length<=9223372036854775807->(∀ x∈l,inV x)->∃ c,kfi n l t=some c/\kfa n l t=some c/\(c=0->∀ x∈l,depV x<=1)) /\
  (∀ l:List Va,5<=n->l.length<=9223372036854775807->(∀ x∈l,inV x)->∃ c,kit n l=some c/\kgw n l=some c/\(c=0->∀ x∈l,depV x<=2))
 | 0=>⟨fun x h=>by unfold rkT at h;split at h <;> (try split at h) <;> omega,fun l t _ h=>by omega,fun l h=>by omega⟩
 | n+1=>by
  obtain ⟨ih1,ih2,ih3⟩:=k29 n;refine ⟨fun x hd k=>?_,fun l t ht hd hl wl=>?_,fun l hd hl wl=>?_⟩
  ·show ∃ c,kb2 (kah n) (kfi n) (kit n) x=some c/\kba (ka5 n) (kfa n) (kgw n) x=some c/\_;obtain ⟨lx,sx,wx⟩:=k3y k;have hS:=fun a b=>kpc x.text a b sx;have p:=fun a b=>k7v x.text a b sx;by_cases h0:x.type<1;exact ⟨3,by simp [kb2,h0],by simp [kba,h0],fun h=>absurd h (by decide)⟩;by_cases s:8<x.type;exact ⟨3,by simp [kb2,h0,s],by simp [kba,h0,s],fun h=>absurd h (by decide)⟩;have ht:x.type=1\/x.type=2\/x.type=3\/x.type=4\/x.type=5\/x.type=6\/x.type=7\/x.type=8:=(by omega);have v:∀ t,(t=2\/t=3)->rkT x.type=2->∃ c,kfi n x.items t=some c/\kfa n x.items t=some c/\(c=0->depV x<=2):=fun t h1 h2=>(by obtain ⟨c,e1,e2,e3⟩:=ih2 x.items t h1 (by omega) lx wx;exact ⟨c,e1,e2,fun h=>kqp (e3 h)⟩);have w:rkT x.type=3->∃ c,kit n x.items=some c/\kgw n x.items=some c/\(c=0->depV x<=3):=fun h2=>(by obtain ⟨c,e1,e2,e3⟩:=ih3 x.items (by omega) lx wx;exact ⟨c,e1,e2,fun h=>kqp (e3 h)⟩);have hp:=kak0 x.items;cases e:(x.text.toList == (⟨#[]⟩:BA).toList) <;> cases hm:(x.num == 0) <;> cases hl:((x.items.length:Int) == 0) <;> rw [hl] at hp <;>
    rcases ht with ht | ht | ht | ht | ht | ht | ht | ht <;>
    first
     | (refine ⟨4,?_,?_,fun h=>absurd h (by decide)⟩;rotate_left;(simp only [kba,ht,e,hm,hp,bne];simp);(simp only [kb2,keu,ht,e,hm,hl];simp))
     | (obtain ⟨c,e1,e2⟩:=kiw x.num 0 1;refine ⟨c,?_,?_,fun _=>by rw [ht];exact ktl hl⟩;rotate_left;(simp only [kba,ht,e,hm,hp,bne];simp [e2]);(simp only [kb2,keu,ht,e,hm,hl];simp [e1]))
     | (obtain ⟨c,e1,e2⟩:=kiw x.num (-1000000) 1000000;refine ⟨c,?_,?_,fun _=>by rw [ht];exact ktl hl⟩;rotate_left;(simp only [kba,ht,e,hm,hp,bne];simp [e2]);(simp only [kb2,keu,ht,e,hm,hl];simp [e1]))
     | (obtain ⟨c,e1,e2⟩:=kiw x.num 0 255;refine ⟨c,?_,?_,fun _=>by rw [ht];exact ktl hl⟩;rotate_left;(simp only [kba,ht,e,hm,hp,bne];simp [e2]);(simp only [kb2,keu,ht,e,hm,hl];simp [e1]))
     | (obtain ⟨c,e1⟩:=hS 0 64;refine ⟨c,?_,?_,fun _=>by rw [ht];exact ktl hl⟩;rotate_left;(simp only [kba,ht,e,hm,hp,bne];simp [p,e1]);(simp only [kb2,keu,ht,e,hm,hl];simp [e1]))
     | (obtain ⟨c,e1⟩:=hS 1 40;refine ⟨c,?_,?_,fun _=>by rw [ht];exact ktl hl⟩;rotate_left;(simp only [kba,ht,e,hm,hp,bne];simp [p,e1]);(simp only [kb2,keu,ht,e,hm,hl];simp [e1]))
     | (obtain ⟨c,e1,e2,e3⟩:=v 2 (.inl rfl) (by rw [ht];rfl);refine ⟨c,?_,?_,fun h=>by rw [ht];exact e3 h⟩;rotate_left;(simp only [kba,ht,e,hm,hp,bne];simp [e2]);(simp only [kb2,keu,ht,e,hm,hl];simp [e1]))
     | (obtain ⟨c,e1,e2,e3⟩:=v 3 (.inr rfl) (by rw [ht];rfl);refine ⟨c,?_,?_,fun h=>by rw [ht];exact e3 h⟩;rotate_left;(simp only [kba,ht,e,hm,hp,bne];simp [e2]);(simp only [kb2,keu,ht,e,hm,hl];simp [e1]))
     | (obtain ⟨c,e1,e2,e3⟩:=w (by rw [ht];rfl);refine ⟨c,?_,?_,fun h=>by rw [ht];exact e3 h⟩;rotate_left;(simp only [kba,ht,e,hm,hp,bne];simp [e2]);(simp only [kb2,keu,ht,e,hm,hl];simp [e1]))
  ·show ∃ c,kfb (kah n) (kfi n) (kit n) l t=some c/\keh (ka5 n) (kfa n) (kgw n) l t=some c/\_;by_cases d:(16:Int)<(l.length:Int);exact ⟨2,by simp only [kfb,qe d,qf],by simp only [keh,qe d,qf],fun h=>absurd h (by decide)⟩
   ·have m:rkT t=1:=(by rcases ht with rfl | rfl <;> rfl);have hst:∀ (i:Nat) (hi:i<l.length),(kam l t (kah n) (i:Int)=some (.inl ((i+1:Nat):Int))/\kbs l t (ka5 n) (i:Int)=some (.inl ((i+1:Nat):Int))/\depV l[i]<=1) \/
      ∃ c,c≠0/\kam l t (kah n) (i:Int)=some (.inr (.inr c))/\kbs l t (ka5 n) (i:Int)=some (.inr (.inr c)):=fun i hi=>by
     have e1:l[i]?=some l[i]:=qc hi;have b1:decide ((i:Int)<(l.length:Int))=true:=qe (by omega);have o:=kcf (n:=i) (by omega);cases ht:(l[i].type != t) with
     | true=>exact .inr ⟨3,by decide,by simp only [kam,b1,kak,e1,ht,qf,qa],by simp only [kbs,b1,kak,e1,ht,qf,qa]⟩
     | false=>
      have g:l[i].type=t:=(by rwa [qap] at ht);obtain ⟨c,k1,k2,k3⟩:=ih1 l[i] (by rw [g,m];omega) (wl _ (qv hi));rw [g,m] at k3;cases hc:(c != 0) with
      | true=>exact .inr ⟨c,by simpa using hc,by simp only [kam,b1,kak,e1,ht,k1,hc,qf,qd,qa],by simp only [kbs,b1,kak,e1,ht,k2,hc,qf,qd,qa]⟩
      | false=>exact .inl ⟨by simp only [kam,b1,kak,e1,ht,k1,hc,o,qf,qd,qa],by simp only [kbs,b1,kak,e1,ht,k2,hc,o,qf,qd,qa],k3 (by rwa [qap] at hc)⟩
    obtain ⟨r,e1,e2⟩:=krr (step:=kam l t (kah n)) (step':=kbs l t (ka5 n)) l.length (by omega) (fun i=>(i:Int)) (fun i hi=>by
     rcases hst i hi with ⟨a1,a2,_⟩ | ⟨c,_,a1,a2⟩;exact .inl ⟨a1,a2⟩
     ·exact .inr ⟨_,a1,a2⟩) (.inl ()) (by simp [kam]) (by simp [kbs])
    have e1':kaa (kam l t (kah n)) fuel 0=some r:=(by simpa using e1);have e2':kaa (kbs l t (ka5 n)) fuel 0=some r:=(by simpa using e2);have hne:∀ c:Int,r = .inr c->c≠0:=fun c hr=>by
     obtain ⟨r2,r3,f1,f2,f3⟩:=kj9 (step:=kam l t (kah n)) (step':=kam l t (kah n)) l.length (by omega) (fun i=>(i:Int)) (fun i=>(i:Int)) (fun r r'=>∀ c,r = .inr c->c≠0) (fun i hi=>by
      rcases hst i hi with ⟨a1,a2,_⟩ | ⟨c,h0,a1,a2⟩;exact .inl ⟨a1,a1⟩
      ·exact .inr ⟨_,_,a1,a1,fun c' h=>by cases h;exact h0⟩) ⟨.inl (), .inl (),by simp [kam],by simp [kam],fun c h=>by cases h⟩
     have f1':kaa (kam l t (kah n)) fuel 0=some r2:=(by simpa using f1);rw [e1'] at f1';cases f1';exact f3 c hr
    refine ⟨Sum.elim (fun _=>0) id r,?_,?_,fun h0=>?_⟩;simp only [kfb,qb d,qd,e1',qa];cases r <;> rfl;simp only [keh,qb d,qd,e2',qa];cases r <;> rfl
    ·cases r with
     | inr c=>exact absurd h0 (hne c rfl)
     | inl u=>
      intro x k;obtain ⟨i,hi,rfl⟩:=qad.1 k;have f:=kqo (step:=kam l t (kah n)) l.length (fun i=>(i:Int)) (.inl u) (fun i hi=>by
       rcases hst i hi with ⟨a1,a2,_⟩ | ⟨c,_,a1,a2⟩;exact .inl a1
       ·exact .inr ⟨_,a1,fun h=>by cases h⟩) fuel 0 e1' i (qz _) hi
      rcases hst i hi with ⟨_,_,h⟩ | ⟨c,_,a1,_⟩;exact h
      ·rw [a1] at f;cases f
  ·show ∃ c,khq (kah n) (kfi n) (kit n) l=some c/\kf3 (ka5 n) (kfa n) (kgw n) l=some c/\_;by_cases d:(8:Int)<(l.length:Int);exact ⟨2,by simp only [khq,qe d,qf],by simp only [kf3,qe d,qf],fun h=>absurd h (by decide)⟩
   ·have hst:∀ (i:Nat) (hi:i<l.length),(kaz l (kah n) (i:Int)=some (.inl ((i+1:Nat):Int))/\kb0 l (ka5 n) (i:Int)=some (.inl ((i+1:Nat):Int))/\depV l[i]<=2) \/
      ∃ c,c≠0/\kaz l (kah n) (i:Int)=some (.inr (.inr c))/\kb0 l (ka5 n) (i:Int)=some (.inr (.inr c)):=fun i hi=>by
     have e1:l[i]?=some l[i]:=qc hi;have e0:idx l 0=some (l[0]'(by omega)):=(by rw [show (0:Int)=((0:Nat):Int) from rfl,kak,qc]);have b1:decide ((i:Int)<(l.length:Int))=true:=qe (by omega);have o:=kcf (n:=i) (by omega);cases ht:(l[i].type != 6) with
     | true=>exact .inr ⟨3,by decide,by simp only [kaz,b1,kak,e1,ht,qf,qa],by simp only [kb0,b1,kak,e1,ht,qf,qa]⟩
     | false=>
      have g:l[i].type=6:=(by rwa [qap] at ht);obtain ⟨c,k1,k2,k3⟩:=ih1 l[i] (by rw [g];show 2*2<=n;omega) (wl _ (qv hi));rw [g] at k3;obtain ⟨q,j⟩:∃ q,(bif decide ((l[i].items.length:Int)<1) then some true else bif decide (8<(l[i].items.length:Int)) then some true else (some ((l[i].items.length:Int) != ((l[0]'(by omega)).items.length:Int)):Option Bool))=some q:=(by cases decide ((l[i].items.length:Int)<1) <;> cases decide (8<(l[i].items.length:Int)) <;> exact ⟨_,rfl⟩);cases q with
      | true=>exact .inr ⟨2,by decide,by simp only [kaz,b1,kak,e1,e0,ht,j,qf,qd,qa],by simp only [kb0,b1,kak,e1,e0,ht,j,qf,qd,qa]⟩
      | false=>
       cases hc:(c != 0) with
       | true=>exact .inr ⟨c,by simpa using hc,by simp only [kaz,b1,kak,e1,e0,ht,j,k1,hc,qf,qd,qa],by simp only [kb0,b1,kak,e1,e0,ht,j,k2,hc,qf,qd,qa]⟩
       | false=>exact .inl ⟨by simp only [kaz,b1,kak,e1,e0,ht,j,k1,hc,o,qf,qd,qa],by simp only [kb0,b1,kak,e1,e0,ht,j,k2,hc,o,qf,qd,qa],k3 (by rwa [qap] at hc)⟩
    obtain ⟨r,e1,e2⟩:=krr (step:=kaz l (kah n)) (step':=kb0 l (ka5 n)) l.length (by omega) (fun i=>(i:Int)) (fun i hi=>by
     rcases hst i hi with ⟨a1,a2,_⟩ | ⟨c,_,a1,a2⟩;exact .inl ⟨a1,a2⟩
     ·exact .inr ⟨_,a1,a2⟩) (.inl ()) (by simp [kaz]) (by simp [kb0])
    have e1':kaa (kaz l (kah n)) fuel 0=some r:=(by simpa using e1);have e2':kaa (kb0 l (ka5 n)) fuel 0=some r:=(by simpa using e2);have hne:∀ c:Int,r = .inr c->c≠0:=fun c hr=>by
     obtain ⟨r2,r3,f1,f2,f3⟩:=kj9 (step:=kaz l (kah n)) (step':=kaz l (kah n)) l.length (by omega) (fun i=>(i:Int)) (fun i=>(i:Int)) (fun r r'=>∀ c,r = .inr c->c≠0) (fun i hi=>by
      rcases hst i hi with ⟨a1,a2,_⟩ | ⟨c,h0,a1,a2⟩;exact .inl ⟨a1,a1⟩
      ·exact .inr ⟨_,_,a1,a1,fun c' h=>by cases h;exact h0⟩) ⟨.inl (), .inl (),by simp [kaz],by simp [kaz],fun c h=>by cases h⟩
     have f1':kaa (kaz l (kah n)) fuel 0=some r2:=(by simpa using f1);rw [e1'] at f1';cases f1';exact f3 c hr
    refine ⟨Sum.elim (fun _=>0) id r,?_,?_,fun h0=>?_⟩;simp only [khq,qb d,qd,e1',qa];cases r <;> rfl;simp only [kf3,qb d,qd,e2',qa];cases r <;> rfl
    ·cases r with
     | inr c=>exact absurd h0 (hne c rfl)
     | inl u=>
      intro x k;obtain ⟨i,hi,rfl⟩:=qad.1 k;have f:=kqo (step:=kaz l (kah n)) l.length (fun i=>(i:Int)) (.inl u) (fun i hi=>by
       rcases hst i hi with ⟨a1,a2,_⟩ | ⟨c,_,a1,a2⟩;exact .inl a1
       ·exact .inr ⟨_,a1,fun h=>by cases h⟩) fuel 0 e1' i (qz _) hi
      rcases hst i hi with ⟨_,_,h⟩ | ⟨c,_,a1,_⟩;exact h
      ·rw [a1] at f;cases f
theorem k7b (t:Int):rkT t<=3:=by unfold rkT;split <;> (try split) <;> omega
theorem ky4 {x:Va} (a:inV x):∃ c,kah fuel x=some c/\ka5 fuel x=some c/\(c=0->okV x):=by have b:2*rkT x.type<=fuel:=qbd (Nat.mul_le_mul_left 2 (k7b x.type)) (by decide);obtain ⟨c,h1,h2,h3⟩:=(k29 fuel).1 x b a;exact ⟨c,h1,h2,fun h=>⟨by have:=h3 h;have:=k7b x.type;omega,a.1⟩⟩
def kt1 (r:Ru):Prop:=r.args.length<=9223372036854775807/\inV r.const
theorem k6e {x:Va} (h:eqV x kcw=true):x=kcw:=k94 x kcw (by simpa [eqV] using h)
theorem kamp (l:La) (r:Ru) (hr:kt1 r):∃ c,klp l r=some c/\kc1 l r=some c:=by obtain ⟨c,h1,h2,_⟩:=ky4 hr.2;exact kahw l r hr.1 (krx _) (kabn _) ⟨c,h1,h2⟩
structure GoodR (l:La) (r:Ru):Prop where
 sym0:0<=r.symbol
 sym1:r.symbol<(l.symbols.length:Int)
 kind:r.kind=1\/r.kind=2\/r.kind=3
 noargs:r.kind≠3->r.args=[]
 args:∀ a∈r.args,0<=a/\a<(l.symbols.length:Int)
 few:r.args.length<=5
 fine:okV r.const
theorem kim {α:Type} {b:Bool} {x y:Option α} {r:α} (h:(bif b then x else y)=some r):(b=true/\x=some r)\/(b=false/\y=some r):=by
 cases b;exact .inr ⟨rfl,h⟩
 ·exact .inl ⟨rfl,h⟩
theorem klb {α β:Type} {E:Option α} {K:α->Option β} {r:β} (h:Option.bind E K=some r):∃ v,E=some v/\K v=some r:=qk.1 h
theorem k6v:opNames.all (fun n=>(ka7 n).all fun o=>decide (o.1.f_Args.length<=5))=true:=by kernel_rfl
theorem kqm {s:BA} {o:Saa×Bool} (h:ka7 s=some o) (ho:o.2=true):o.1.f_Args.length<=5:=by
 by_cases a:s∈opNames;have:=qs.1 k6v s a;rw [h] at this;simpa using this
 ·rw [(kuf s a).2] at h;cases h;cases ho
theorem kae6 {l:La} {r:Ru} (ha:r.args.length<=9223372036854775807) (h:kcv l r=some 0):r.args.length<=5/\∀ a∈r.args,0<=a/\a<(l.symbols.length:Int):=by
 unfold kcv at h;obtain ⟨o,h1,h⟩:=klb h;rcases kim h with ⟨_,h⟩ | ⟨h2,h⟩;cases h;rcases kim h with ⟨_,h⟩ | ⟨h3,h⟩;cases h;have f:r.args.length=o.1.f_Args.length:=by have:=qap.1 h3;omega
 have p:=kqm h1 (by simpa using h2);obtain ⟨v,g,h⟩:=klb h;refine ⟨by omega,fun a d=>?_⟩;have hst:∀ i,i<r.args.length->kbb l r o (i:Int)=some (.inl ((i+1:Nat):Int))/\(∀ x,r.args[i]?=some x->0<=x/\x<(l.symbols.length:Int))\/∃ c,c≠0/\kbb l r o (i:Int)=some (.inr (.inr c)):=fun i hi=>by
  have e1:r.args[i]?=some r.args[i]:=qc hi;have e:i<o.1.f_Args.length:=by omega
  have e2:o.1.f_Args[i]?=some o.1.f_Args[i]:=qc e;have b1:decide ((i:Int)<(r.args.length:Int))=true:=qe (by omega);simp only [kbb,b1,qf,kak,e1,e2,qa,kcf (n:=i) (by omega)];by_cases h0:0<=r.args[i]
  ·by_cases h1:r.args[i]<(l.symbols.length:Int)
   ·obtain ⟨x,j,_⟩:=kvd h0 h1;rw [qb (show ¬ r.args[i]<0 by omega),qb (show ¬ (l.symbols.length:Int)<=r.args[i] by omega)];simp only [qd,qa,j];cases x.type != o.1.f_Args[i] with
    | true=>exact .inr ⟨3,by decide,rfl⟩
    | false=>exact .inl ⟨rfl,fun y k=>by cases k;exact ⟨h0,h1⟩⟩
   ·rw [qb (show ¬ r.args[i]<0 by omega),qe (show (l.symbols.length:Int)<=r.args[i] by omega)];exact .inr ⟨1,by decide,rfl⟩
  ·rw [qe (show r.args[i]<0 by omega)];exact .inr ⟨1,by decide,rfl⟩
 obtain ⟨i,hi,rfl⟩:=qad.1 d;have hv:∀ c:Int,c≠0->(.inr c:Unit ⊕ Int)≠v:=fun c hc m=>by subst m;cases h;exact hc rfl
 have b:=kqo (step:=kbb l r o) r.args.length (fun i=>(i:Int)) v (fun i hi=>by
  rcases hst i hi with ⟨a1,_⟩ | ⟨c,hc,a1⟩;exact .inl a1
  ·exact .inr ⟨_,a1,hv c hc⟩) fuel 0 g i (qz _) hi
 rcases hst i hi with ⟨_,a2⟩ | ⟨c,_,a1⟩;exact a2 _ (qc hi)
 ·rw [a1] at b;cases b
theorem len0 {α:Type} {xs:List α} (h:((xs.length:Int) == 0)=true):xs=[]:=qar (by have:=eq_of_beq h;omega)
theorem k37 {l:La} {r:Ru} (hr:kt1 r) (h:kc1 l r=some 0):GoodR l r:=by
 unfold kc1 at h;obtain ⟨b1,h1,h⟩:=klb h;rcases kim h with ⟨_,h⟩ | ⟨h2,h⟩;cases h;subst h2;have hs:0<=r.symbol/\r.symbol<(l.symbols.length:Int):=by
  rcases kim h1 with ⟨_,h1⟩ | ⟨q,h1⟩;cases h1
  ·have q:=qa1 q;have q2:=qa1 (qq h1);omega
 obtain ⟨b2,h3,h⟩:=klb h;rcases kim h with ⟨_,h⟩ | ⟨j,h⟩;cases h;subst j;rcases kim h3 with ⟨_,h3⟩ | ⟨q1,h3⟩;cases h3;rcases kim h3 with ⟨_,h3⟩ | ⟨q2,h3⟩;cases h3;have q1:=qa1 q1;have q2:=qa1 q2;obtain ⟨z,f,k⟩:=klb h3;have m:z=true:=by
  cases z with
  | true=>rfl
  | false=>cases k
 subst m;obtain ⟨x,n,h⟩:=klb h;unfold kc2 at f;rw [krx,qa] at f;have hk:r.kind=1\/r.kind=2\/r.kind=3:=by omega
 have okz:eqV r.const kcw=true->okV r.const:=fun h=>by rw [k6e h];exact ks9
 rcases hk with hk | hk | hk
 ·have c1:(r.kind == 1)=true:=by rw [hk];rfl
  rw [c1,qf] at f;obtain ⟨b,d,g⟩:=klb f;cases g;rcases kim d with ⟨e1,d⟩ | ⟨_,d⟩
  ·rcases kim d with ⟨e2,d⟩ | ⟨_,d⟩;have ha:=len0 (qq d);exact ⟨hs.1,hs.2, .inl hk,fun _=>ha,by rw [ha];intro a h;(cases h),by rw [ha];exact qz _,okz e1⟩
   ·cases d
  ·cases d
 ·have c1:(r.kind == 1)=false:=by rw [hk];rfl
  have c2:(r.kind == 2)=true:=by rw [hk];rfl
  rw [c1,qd,c2,qf] at f;rw [c1,qd,c2,qf] at h;obtain ⟨b,d,g⟩:=klb f;cases g;obtain ⟨c,g1,g2⟩:=klb h;have hc:c=0:=by
   rcases kim g2 with ⟨e,g2⟩ | ⟨e,g2⟩;cases g2;rfl
   ·exact qap.1 e
  obtain ⟨c',f1,f2,f3⟩:=ky4 hr.2;have i:c'=0:=by rw [f2] at g1;cases g1;exact hc
  rcases kim d with ⟨e1,d⟩ | ⟨_,d⟩
  ·rcases kim d with ⟨e2,d⟩ | ⟨_,d⟩;have ha:=len0 (qq d);exact ⟨hs.1,hs.2, .inr (.inl hk),fun _=>ha,by rw [ha];intro a h;(cases h),by rw [ha];exact qz _,f3 i⟩
   ·cases d
  ·cases d
 ·have c1:(r.kind == 1)=false:=by rw [hk];rfl
  have c2:(r.kind == 2)=false:=by rw [hk];rfl
  rw [c1,qd,c2,qd] at f;rw [c1,qd,c2,qd] at h;obtain ⟨b,d,g⟩:=klb f;cases g;obtain ⟨c,g1,g2⟩:=klb h;cases g2;obtain ⟨a1,a2⟩:=kae6 hr.1 g1;rcases kim d with ⟨e1,d⟩ | ⟨_,d⟩;exact ⟨hs.1,hs.2, .inr (.inr hk),fun h=>absurd hk h,a2,a1,okz (qq d)⟩
  ·cases d
theorem GoodR.fineR {l:La} {r:Ru} (h:GoodR l r) (hr:kt1 r):fineR r:=⟨by have:=h.few;omega,h.fine,hr.2.2⟩
structure kk5 (l:La):Prop where
 name:l.name.size<=9223372036854775807
 inputs:l.inputs.length<=9223372036854775807
 symbols:l.symbols.length<=9223372036854775807
 rules:l.rules.length<=9223372036854775807
 names:∀ x∈l.symbols,x.name.size<=9223372036854775807
 wide:∀ r∈l.rules,kt1 r
structure k5c (l:La):Prop where
 inputs:l.inputs.length<=4
 sym1:1<=l.symbols.length
 sym16:l.symbols.length<=16
 rules:l.rules.length<=96
 good:∀ r∈l.rules,GoodR l r
theorem kajs (l:La) (h:kk5 l):∃ r,kaa (kcl l) fuel 0=some r/\kaa (ka6 l) fuel 0=some r/\(r = .inl ()->∀ x∈l.rules,GoodR l x)/\(∀ e,r = .inr e->e≠0):=by
 have hl:=h.rules;have u:∀ n,n<=l.rules.length->(∃ i,i<n/\∃ e,e≠0/\(∀ j,j<i->kcl l (j:Int)=some (.inl ((j+1:Nat):Int))/\ka6 l (j:Int)=some (.inl ((j+1:Nat):Int)))/\kcl l (i:Int)=some (.inr (.inr e))/\ka6 l (i:Int)=some (.inr (.inr e))) \/
   ((∀ j,j<n->kcl l (j:Int)=some (.inl ((j+1:Nat):Int))/\ka6 l (j:Int)=some (.inl ((j+1:Nat):Int)))/\∀ j (a:j<l.rules.length),j<n->GoodR l l.rules[j]):=by
  intro n
  induction n with
  | zero=>intro _;exact .inr ⟨fun j a=>by omega,fun j _ a=>by omega⟩
  | succ n ih=>
   intro hn;rcases ih (by omega) with ⟨i,hi,e,o,p⟩ | ⟨g1,g2⟩;exact .inl ⟨i,by omega,e,o,p⟩
   ·have hi:n<l.rules.length:=(by omega);have e1:l.rules[n]?=some l.rules[n]:=qc hi;have b1:decide ((n:Int)<(l.rules.length:Int))=true:=qe (by omega);have q:=h.wide _ (qv hi);obtain ⟨c,c1,c2⟩:=kamp l l.rules[n] q;by_cases hc:c=0
    ·subst hc;have t:=k37 q c2;have m:∀ j (a:j<l.rules.length),j<=n->fineR l.rules[j]:=fun j a g=>by
      have s:=h.wide _ (qv a);by_cases d:j=n;subst d;exact t.fineR q
      ·exact (g2 j a (by omega)).fineR s
     obtain ⟨b,d1,d2⟩:=kahd l n hi hl m;cases b with
     | true=>
      refine .inl ⟨n,by omega,6,by decide,g1,?_,?_⟩;simp only [kcl,b1,qf,kak,e1,qa,c1,k7a l.rules n (by omega),d1];rfl
      ·simp only [ka6,b1,qf,kak,e1,qa,c2,d2];rfl
     | false=>
      refine .inr ⟨fun j a=>?_,fun j a g=>?_⟩
      ·by_cases g:j=n
       ·subst g;constructor;simp only [kcl,b1,qf,kak,e1,qa,c1,k7a l.rules j (by omega),d1,kcf (n:=j) (by omega)];rfl
        ·simp only [ka6,b1,qf,kak,e1,qa,c2,d2,kcf (n:=j) (by omega)];rfl
       ·exact g1 j (by omega)
      ·by_cases d:j=n;subst d;exact t
       ·exact g2 j a (by omega)
    ·refine .inl ⟨n,by omega,c,hc,g1,?_,?_⟩;simp only [kcl,b1,qf,kak,e1,qa,c1,show (c != 0)=true by simpa using hc]
     ·simp only [ka6,b1,qf,kak,e1,qa,c2,show (c != 0)=true by simpa using hc]
 have f:kcl l (l.rules.length:Int)=some (.inr (.inl ()))/\ka6 l (l.rules.length:Int)=some (.inr (.inl ())):=by have b1:decide ((l.rules.length:Int)<(l.rules.length:Int))=false:=qb (by omega);simp only [kcl,ka6,b1,qd,and_self]
 rcases u l.rules.length (qy _) with ⟨i,hi,e,o,a,a1,a2⟩ | ⟨g1,g2⟩;obtain ⟨r,r',h1,h2,rfl,h3⟩:=kj9 (step:=kcl l) (step':=ka6 l) i (by omega) (fun i=>(i:Int)) (fun i=>(i:Int)) (fun r r'=>r=r'/\r = .inr e) (fun j k => .inl (a j k)) ⟨_,_,a1,a2,rfl,rfl⟩;subst h3;exact ⟨_,by simpa using h1,by simpa using h2,(fun h=>by cases h),fun e' h=>by cases h;exact o⟩
 ·obtain ⟨r,r',h1,h2,rfl,h3⟩:=kj9 (step:=kcl l) (step':=ka6 l) l.rules.length (by omega) (fun i=>(i:Int)) (fun i=>(i:Int)) (fun r r'=>r=r'/\r = .inl ()) (fun j k => .inl (g1 j k)) ⟨_,_,f.1,f.2,rfl,rfl⟩;subst h3;refine ⟨_,by simpa using h1,by simpa using h2,fun _ x p=>?_,fun e' h=>by cases h⟩;obtain ⟨i,hi,rfl⟩:=qad.1 p;exact g2 i hi hi
theorem kad0 (l:La) (h:kk5 l):∃ c,kep l=some c/\kcq l=some c/\(c=0->k5c l):=by
 obtain ⟨b,n1,n2⟩:=k1u l.name h.name;obtain ⟨r1,i1,i2,i3⟩:=k81 l h.inputs;obtain ⟨r2,s1,s2,s3⟩:=k7y l h.symbols h.names;obtain ⟨r3,t1,t2,t3,t4⟩:=kajs l h;have hne:∀ c:Int,c≠0->(c=0->k5c l):=fun c hc h=>absurd h hc;unfold kep kcq;rw [n1,n2];simp only [qa];cases b with
 | false=>exact ⟨5,rfl,rfl,hne 5 (by decide)⟩
 | true=>
  simp only [qab,qd];cases d:decide (4<(l.inputs.length:Int)) with
  | true=>exact ⟨2,rfl,rfl,hne 2 (by decide)⟩
  | false=>
   have d:=qa1 d;simp only [qd,i1,i2,qa];cases r1 with
   | inr e=>exact ⟨e,rfl,rfl,hne e (i3 e rfl)⟩
   | inl u=>
    simp only [qh];have hc:(bif decide ((l.symbols.length:Int)<1) then some true else some (decide (16<(l.symbols.length:Int))):Option Bool)=some (decide ((l.symbols.length:Int)<1) || decide (16<(l.symbols.length:Int))):=(by cases decide ((l.symbols.length:Int)<1) <;> rfl);rw [hc,qa,qa];cases a:decide ((l.symbols.length:Int)<1) || decide (16<(l.symbols.length:Int)) with
    | true=>exact ⟨2,rfl,rfl,hne 2 (by decide)⟩
    | false=>
     rw [Bool.or_eq_false_iff] at a;have g:=qa1 a.1;have i:=qa1 a.2;simp only [qd,s1,s2,qa];cases r2 with
     | inr e=>exact ⟨e,rfl,rfl,hne e (s3 e rfl)⟩
     | inl u=>
      simp only [qh];cases f:decide (96<(l.rules.length:Int)) with
      | true=>exact ⟨2,rfl,rfl,hne 2 (by decide)⟩
      | false=>
       have f:=qa1 f;simp only [qd,t1,t2,qa];cases r3 with
       | inr e=>exact ⟨e,rfl,rfl,hne e (t4 e rfl)⟩
       | inl u=>exact ⟨0,rfl,rfl,fun _=>⟨by omega,by omega,by omega,by omega,t3 rfl⟩⟩
end Go.Proofs.YtaimpcnpifoidaaGreatDoor
