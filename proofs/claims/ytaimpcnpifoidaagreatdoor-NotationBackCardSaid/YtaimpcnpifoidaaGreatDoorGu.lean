import Derived.Test.YtaimpcnpifoidaaGreatDoorGa
set_option linter.unusedVariables false
set_option linter.unusedSimpArgs false
namespace Go.Proofs.YtaimpcnpifoidaaGreatDoor
open Go Go.RowKit
theorem kadi (n:Nat) (x z:Va) (hz:z.items=[]):kc9 (n+1) x z=some (cmpV x z):=by
 show kg4 (kc9 n) x z=_
 rw [kts]
 unfold kg4
 by_cases h1:x.type<z.type
 ·rw [qe h1,if_pos h1];rfl
 rw [qc h1,if_neg h1,qb]
 by_cases h2:z.type<x.type
 ·rw [qe h2,if_pos h2];rfl
 rw [qc h2,if_neg h2,qb]
 by_cases h3:x.num<z.num
 ·rw [qe h3,if_pos h3];rfl
 rw [qc h3,if_neg h3,qb]
 by_cases h4:z.num<x.num
 ·rw [qe h4,if_pos h4];rfl
 rw [qc h4,if_neg h4,qb,k1s]
 show (bif kgt x.text z.text then _ else bif kgt z.text x.text then _ else _)=_
 cases h5:kgt x.text z.text with
 | true=>rfl
 | false=>
  cases h6:kgt z.text x.text with
  | true=>rfl
  | false=>
   simp only [qb,qax,if_false]
   cases hi:x.items with
   | nil=>
    have:kaa (kce x z (kc9 n)) fuel 0=some (.inl ()):=by
     rw [kne,kaa]
     simp [kce,hi]
    rw [this,hz]
    simp [khn]
   | cons y l=>
    have:kaa (kce x z (kc9 n)) fuel 0=some (.inr 1):=by
     rw [kne,kaa]
     have e:idx (y::l) 0=some y:=kak (y::l) 0
     simp [kce,hi,e,hz]
    rw [this,hz]
    simp [khn]
theorem kagb (n:Nat) (x:Va):kc9 (n+1) x kda=some (cmpV x kda):=kadi n x kda rfl
theorem k8j (n:Nat) (l:List Va):kc4 (n+1) l []=some (if l.length=0 then 0 else 1):=by
 show kcm (ka8 n) (kc4 n) l []=_
 have:kaa (kbe l [] (ka8 n)) fuel 0=some (.inl ()):=by
  rw [kne,kaa]
  cases l <;> simp [kbe]
 unfold kcm
 rw [this]
 cases l with
 | nil=>simp
 | cons y l=>
  have h1:((((y::l).length:Nat):Int) == (([]:List Va).length:Int))=false:=by rw [qy,qq,qab];omega
  have h2:decide ((((y::l).length:Nat):Int)<(([]:List Va).length:Int))=false:=qc (by rw [qq,qab];omega)
  simp only [qa,qf,h1,h2,qb,knc]
  rfl
theorem kafw (n:Nat) (x z:Va) (hz:z.items=[]):ka8 (n+2) x z=some (cmpV x z):=by
 show kdc (ka8 (n+1)) (kc4 (n+1)) x z=_
 rw [kts]
 unfold kdc
 have hq:khn x.items []=if x.items.length=0 then 0 else 1:=by
  cases x.items <;> rfl
 have hq2:=k8j n x.items
 rw [hz,hq,hq2]
 by_cases t0:x.type=z.type
 ·rw [show (x.type != z.type)=false by rw [bne_eq_false_iff_eq];exact t0,qb,if_neg (show ¬ x.type<z.type by omega),if_neg (show ¬ z.type<x.type by omega)]
  by_cases n0:x.num=z.num
  ·rw [show (x.num != z.num)=false by rw [bne_eq_false_iff_eq];exact n0,qb,if_neg (show ¬ x.num<z.num by omega),if_neg (show ¬ z.num<x.num by omega)]
   by_cases he:x.text=z.text
   ·rw [he,show (z.text.toList == z.text.toList)=true from qa3 _]
    simp only [qae,qb,qa,ky4,qax,if_false]
   ·have hne:(x.text.toList == z.text.toList)=false:=by
     rw [qy]
     exact fun h=>he (kjp h)
    rw [hne]
    simp only [qat,qd,knc,qa]
    show some (if kgt x.text z.text=true then (-1:Int) else 1)=_
    cases h5:kgt x.text z.text with
    | true=>rfl
    | false=>
     cases h6:kgt z.text x.text with
     | true=>rfl
     | false=>exact absurd (k3k h5 h6) he
  ·rw [show (x.num != z.num)=true by rw [qas];exact n0,qd,knc]
   by_cases hl:x.num<z.num
   ·rw [qe hl,if_pos hl];rfl
   ·rw [qc hl,if_neg hl,if_pos (show z.num<x.num by omega)];rfl
 ·rw [show (x.type != z.type)=true by rw [qas];exact t0,qd,knc]
  by_cases hl:x.type<z.type
  ·rw [qe hl,if_pos hl];rfl
  ·rw [qc hl,if_neg hl,if_pos (show z.type<x.type by omega)];rfl
theorem kadh (n:Nat) (x:Va):ka8 (n+2) x kda=some (cmpV x kda):=kafw n x kda rfl
theorem k8z (x:Va):kf6 x (Va.mk 0 0 ⟨#[]⟩ [])=some (eqV x kda):=by
 unfold kf6
 have:=kagb 18446744073709551615 x
 rw [← kne] at this
 show Option.bind (kc9 fuel x kda) _=_
 rw [this]
 simp only [qa,eqV]
 by_cases h:cmpV x kda=0 <;> simp [h]
theorem kp0 (x:Va):kch x (Va.mk 0 0 ⟨#[]⟩ [])=some (eqV x kda):=by
 unfold kch
 have:=kadh 18446744073709551614 x
 show Option.bind (ka8 fuel x kda) _=_
 rw [show fuel=18446744073709551614+2 from rfl,this]
 simp only [qa,eqV]
 by_cases h:cmpV x kda=0 <;> simp [h]
def rkT (t:Int):Nat:=if t=7 then 3 else if t=5∨t=6 then 2 else 1
def inV (x:Va):Prop:=kiq 9223372036854775807 x∧ks9 x
theorem k08 {x:Va} (h:inV x):x.items.length≤9223372036854775807∧x.text.size≤9223372036854775807∧∀ y∈x.items,inV y:=by
 obtain ⟨l1,l2⟩:=knq h.1
 obtain ⟨s1,s2⟩:=k5r h.2
 exact ⟨l1,s1,fun y hy=>⟨l2 y hy,s2 y hy⟩⟩
theorem k4s {k:Nat}:∀ {l:List Va},(∀ y∈l,depV y≤k)→kr7 l≤k
 | [],_=>qx _
 | y::l,h=>by
  simp only [kr7]
  exact Nat.max_le.2 ⟨h y (qo ..),k4s fun z hz=>h z (qk _ hz)⟩
theorem kor {x:Va} {k:Nat} (h:∀ y∈x.items,depV y≤k):depV x≤k+1:=by
 cases x with
 | mk t n s l=>simp only [depV];exact Nat.succ_le_succ (k4s h)
theorem kq1 {x:Va} (h:((x.items.length:Int) == 0)=true):depV x≤1:=by
 refine kor fun y hy=>?_
 have:x.items.length=0:=by have:=eq_of_beq h;omega
 rw [qz this] at hy
 cases hy
theorem k0j:∀ n:Nat,(∀ x:Va,2*rkT x.type≤n→inV x→∃ c,kah n x=some c∧ka0 n x=some c∧(c=0→depV x≤rkT x.type)) ∧
  (∀ (l:List Va) (t:Int),(t=2∨t=3)→3≤n→l.length≤9223372036854775807→(∀ x∈l,inV x)→∃ c,ke3 n l t=some c∧kem n l t=some c∧(c=0→∀ x∈l,depV x≤1)) ∧
  (∀ l:List Va,5≤n→l.length≤9223372036854775807→(∀ x∈l,inV x)→∃ c,khs n l=some c∧kf3 n l=some c∧(c=0→∀ x∈l,depV x≤2))
 | 0=>⟨fun x h=>by unfold rkT at h;split at h <;> (try split at h) <;> omega,fun l t _ h=>by omega,fun l h=>by omega⟩
 | n+1=>by
  obtain ⟨ih1,ih2,ih3⟩:=k0j n
  refine ⟨fun x hd hx=>?_,fun l t ht hd hl wl=>?_,fun l hd hl wl=>?_⟩
  ·show ∃ c,kbu (kah n) (ke3 n) (khs n) x=some c∧ka6 (ka0 n) (kem n) (kf3 n) x=some c∧_
   obtain ⟨lx,sx,wx⟩:=k08 hx
   have hS:=fun a b=>kn1 x.text a b sx
   have hP:=fun a b=>k25 x.text a b sx
   by_cases h0:x.type<1
   ·exact ⟨3,by simp [kbu,h0],by simp [ka6,h0],fun h=>absurd h (by decide)⟩
   by_cases h8:8<x.type
   ·exact ⟨3,by simp [kbu,h0,h8],by simp [ka6,h0,h8],fun h=>absurd h (by decide)⟩
   have ht:x.type=1∨x.type=2∨x.type=3∨x.type=4∨x.type=5∨x.type=6∨x.type=7∨x.type=8:=by omega
   have hE:∀ t,(t=2∨t=3)→rkT x.type=2→∃ c,ke3 n x.items t=some c∧kem n x.items t=some c∧(c=0→depV x≤2):=fun t h1 h2=>by
    obtain ⟨c,e1,e2,e3⟩:=ih2 x.items t h1 (by omega) lx wx
    exact ⟨c,e1,e2,fun h=>kor (e3 h)⟩
   have hR:rkT x.type=3→∃ c,khs n x.items=some c∧kf3 n x.items=some c∧(c=0→depV x≤3):=fun h2=>by
    obtain ⟨c,e1,e2,e3⟩:=ih3 x.items (by omega) lx wx
    exact ⟨c,e1,e2,fun h=>kor (e3 h)⟩
   have hp:=kah4 x.items
   cases hz:(x.text.toList == (⟨#[]⟩:BA).toList) <;> cases hm:(x.num == 0) <;> cases hl:((x.items.length:Int) == 0) <;> rw [hl] at hp <;>
    rcases ht with ht | ht | ht | ht | ht | ht | ht | ht <;>
    first
     | (refine ⟨4,?_,?_,fun h=>absurd h (by decide)⟩;rotate_left;(simp only [ka6,ht,hz,hm,hp,bne];simp);(simp only [kbu,kd8,ht,hz,hm,hl];simp))
     | (obtain ⟨c,e1,e2⟩:=kht x.num 0 1;refine ⟨c,?_,?_,fun _=>by rw [ht];exact kq1 hl⟩;rotate_left;(simp only [ka6,ht,hz,hm,hp,bne];simp [e2]);(simp only [kbu,kd8,ht,hz,hm,hl];simp [e1]))
     | (obtain ⟨c,e1,e2⟩:=kht x.num (-1000000) 1000000;refine ⟨c,?_,?_,fun _=>by rw [ht];exact kq1 hl⟩;rotate_left;(simp only [ka6,ht,hz,hm,hp,bne];simp [e2]);(simp only [kbu,kd8,ht,hz,hm,hl];simp [e1]))
     | (obtain ⟨c,e1,e2⟩:=kht x.num 0 255;refine ⟨c,?_,?_,fun _=>by rw [ht];exact kq1 hl⟩;rotate_left;(simp only [ka6,ht,hz,hm,hp,bne];simp [e2]);(simp only [kbu,kd8,ht,hz,hm,hl];simp [e1]))
     | (obtain ⟨c,e1⟩:=hS 0 64;refine ⟨c,?_,?_,fun _=>by rw [ht];exact kq1 hl⟩;rotate_left;(simp only [ka6,ht,hz,hm,hp,bne];simp [hP,e1]);(simp only [kbu,kd8,ht,hz,hm,hl];simp [e1]))
     | (obtain ⟨c,e1⟩:=hS 1 40;refine ⟨c,?_,?_,fun _=>by rw [ht];exact kq1 hl⟩;rotate_left;(simp only [ka6,ht,hz,hm,hp,bne];simp [hP,e1]);(simp only [kbu,kd8,ht,hz,hm,hl];simp [e1]))
     | (obtain ⟨c,e1,e2,e3⟩:=hE 2 (.inl rfl) (by rw [ht];rfl);refine ⟨c,?_,?_,fun h=>by rw [ht];exact e3 h⟩;rotate_left;(simp only [ka6,ht,hz,hm,hp,bne];simp [e2]);(simp only [kbu,kd8,ht,hz,hm,hl];simp [e1]))
     | (obtain ⟨c,e1,e2,e3⟩:=hE 3 (.inr rfl) (by rw [ht];rfl);refine ⟨c,?_,?_,fun h=>by rw [ht];exact e3 h⟩;rotate_left;(simp only [ka6,ht,hz,hm,hp,bne];simp [e2]);(simp only [kbu,kd8,ht,hz,hm,hl];simp [e1]))
     | (obtain ⟨c,e1,e2,e3⟩:=hR (by rw [ht];rfl);refine ⟨c,?_,?_,fun h=>by rw [ht];exact e3 h⟩;rotate_left;(simp only [ka6,ht,hz,hm,hp,bne];simp [e2]);(simp only [kbu,kd8,ht,hz,hm,hl];simp [e1]))
  ·show ∃ c,keq (kah n) (ke3 n) (khs n) l t=some c∧kdz (ka0 n) (kem n) (kf3 n) l t=some c∧_
   by_cases h16:(16:Int)<(l.length:Int)
   ·exact ⟨2,by simp only [keq,qe h16,qd],by simp only [kdz,qe h16,qd],fun h=>absurd h (by decide)⟩
   ·have hrk:rkT t=1:=by rcases ht with rfl | rfl <;> rfl
    have hst:∀ (i:Nat) (hi:i<l.length),(kan l t (kah n) (i:Int)=some (.inl ((i+1:Nat):Int))∧kbl l t (ka0 n) (i:Int)=some (.inl ((i+1:Nat):Int))∧depV l[i]≤1) ∨
      ∃ c,c≠0∧kan l t (kah n) (i:Int)=some (.inr (.inr c))∧kbl l t (ka0 n) (i:Int)=some (.inr (.inr c)):=fun i hi=>by
     have e1:l[i]?=some l[i]:=List.getElem?_eq_getElem hi
     have b1:decide ((i:Int)<(l.length:Int))=true:=qe (by omega)
     have hw:=kb9 (n:=i) (by omega)
     cases ht:(l[i].type != t) with
     | true=>exact .inr ⟨3,by decide,by simp only [kan,b1,kak,e1,ht,qd,qa],by simp only [kbl,b1,kak,e1,ht,qd,qa]⟩
     | false=>
      have hty:l[i].type=t:=by rwa [bne_eq_false_iff_eq] at ht
      obtain ⟨c,k1,k2,k3⟩:=ih1 l[i] (by rw [hty,hrk];omega) (wl _ (qn hi))
      rw [hty,hrk] at k3
      cases hc:(c != 0) with
      | true=>exact .inr ⟨c,by simpa using hc,by simp only [kan,b1,kak,e1,ht,k1,hc,qd,qb,qa],by simp only [kbl,b1,kak,e1,ht,k2,hc,qd,qb,qa]⟩
      | false=>exact .inl ⟨by simp only [kan,b1,kak,e1,ht,k1,hc,hw,qd,qb,qa],by simp only [kbl,b1,kak,e1,ht,k2,hc,hw,qd,qb,qa],k3 (by rwa [bne_eq_false_iff_eq] at hc)⟩
    obtain ⟨r,e1,e2⟩:=kpr (step:=kan l t (kah n)) (step':=kbl l t (ka0 n)) l.length (by omega) (fun i=>(i:Int)) (fun i hi=>by
     rcases hst i hi with ⟨a1,a2,_⟩ | ⟨c,_,a1,a2⟩
     ·exact .inl ⟨a1,a2⟩
     ·exact .inr ⟨_,a1,a2⟩) (.inl ()) (by simp [kan]) (by simp [kbl])
    have e1':kaa (kan l t (kah n)) fuel 0=some r:=by simpa using e1
    have e2':kaa (kbl l t (ka0 n)) fuel 0=some r:=by simpa using e2
    have hne:∀ c:Int,r = .inr c→c≠0:=fun c hr=>by
     obtain ⟨r2,r3,f1,f2,f3⟩:=kjf (step:=kan l t (kah n)) (step':=kan l t (kah n)) l.length (by omega) (fun i=>(i:Int)) (fun i=>(i:Int)) (fun r r'=>∀ c,r = .inr c→c≠0) (fun i hi=>by
      rcases hst i hi with ⟨a1,a2,_⟩ | ⟨c,h0,a1,a2⟩
      ·exact .inl ⟨a1,a1⟩
      ·exact .inr ⟨_,_,a1,a1,fun c' h=>by cases h;exact h0⟩) ⟨.inl (), .inl (),by simp [kan],by simp [kan],fun c h=>by cases h⟩
     have f1':kaa (kan l t (kah n)) fuel 0=some r2:=by simpa using f1
     rw [e1'] at f1'
     cases f1'
     exact f3 c hr
    refine ⟨Sum.elim (fun _=>0) id r,?_,?_,fun h0=>?_⟩
    ·simp only [keq,qc h16,qb,e1',qa];cases r <;> rfl
    ·simp only [kdz,qc h16,qb,e2',qa];cases r <;> rfl
    ·cases r with
     | inr c=>exact absurd h0 (hne c rfl)
     | inl u=>
      intro x hx
      obtain ⟨i,hi,rfl⟩:=qs.1 hx
      have hall:=kl0 (step:=kan l t (kah n)) l.length (fun i=>(i:Int)) (.inl u) (fun i hi=>by
       rcases hst i hi with ⟨a1,a2,_⟩ | ⟨c,_,a1,a2⟩
       ·exact .inl a1
       ·exact .inr ⟨_,a1,fun h=>by cases h⟩) fuel 0 e1' i (qx _) hi
      rcases hst i hi with ⟨_,_,h⟩ | ⟨c,_,a1,_⟩
      ·exact h
      ·rw [a1] at hall;cases hall
  ·show ∃ c,kgy (kah n) (ke3 n) (khs n) l=some c∧kfl (ka0 n) (kem n) (kf3 n) l=some c∧_
   by_cases h16:(8:Int)<(l.length:Int)
   ·exact ⟨2,by simp only [kgy,qe h16,qd],by simp only [kfl,qe h16,qd],fun h=>absurd h (by decide)⟩
   ·have hst:∀ (i:Nat) (hi:i<l.length),(kax l (kah n) (i:Int)=some (.inl ((i+1:Nat):Int))∧kbs l (ka0 n) (i:Int)=some (.inl ((i+1:Nat):Int))∧depV l[i]≤2) ∨
      ∃ c,c≠0∧kax l (kah n) (i:Int)=some (.inr (.inr c))∧kbs l (ka0 n) (i:Int)=some (.inr (.inr c)):=fun i hi=>by
     have e1:l[i]?=some l[i]:=List.getElem?_eq_getElem hi
     have e0:idx l 0=some (l[0]'(by omega)):=by rw [show (0:Int)=((0:Nat):Int) from rfl,kak,List.getElem?_eq_getElem]
     have b1:decide ((i:Int)<(l.length:Int))=true:=qe (by omega)
     have hw:=kb9 (n:=i) (by omega)
     cases ht:(l[i].type != 6) with
     | true=>exact .inr ⟨3,by decide,by simp only [kax,b1,kak,e1,ht,qd,qa],by simp only [kbs,b1,kak,e1,ht,qd,qa]⟩
     | false=>
      have hty:l[i].type=6:=by rwa [bne_eq_false_iff_eq] at ht
      obtain ⟨c,k1,k2,k3⟩:=ih1 l[i] (by rw [hty];show 2*2≤n;omega) (wl _ (qn hi))
      rw [hty] at k3
      obtain ⟨q,hq⟩:∃ q,(bif decide ((l[i].items.length:Int)<1) then some true else bif decide (8<(l[i].items.length:Int)) then some true else (some ((l[i].items.length:Int) != ((l[0]'(by omega)).items.length:Int)):Option Bool))=some q:=by
       cases decide ((l[i].items.length:Int)<1) <;> cases decide (8<(l[i].items.length:Int)) <;> exact ⟨_,rfl⟩
      cases q with
      | true=>exact .inr ⟨2,by decide,by simp only [kax,b1,kak,e1,e0,ht,hq,qd,qb,qa],by simp only [kbs,b1,kak,e1,e0,ht,hq,qd,qb,qa]⟩
      | false=>
       cases hc:(c != 0) with
       | true=>exact .inr ⟨c,by simpa using hc,by simp only [kax,b1,kak,e1,e0,ht,hq,k1,hc,qd,qb,qa],by simp only [kbs,b1,kak,e1,e0,ht,hq,k2,hc,qd,qb,qa]⟩
       | false=>exact .inl ⟨by simp only [kax,b1,kak,e1,e0,ht,hq,k1,hc,hw,qd,qb,qa],by simp only [kbs,b1,kak,e1,e0,ht,hq,k2,hc,hw,qd,qb,qa],k3 (by rwa [bne_eq_false_iff_eq] at hc)⟩
    obtain ⟨r,e1,e2⟩:=kpr (step:=kax l (kah n)) (step':=kbs l (ka0 n)) l.length (by omega) (fun i=>(i:Int)) (fun i hi=>by
     rcases hst i hi with ⟨a1,a2,_⟩ | ⟨c,_,a1,a2⟩
     ·exact .inl ⟨a1,a2⟩
     ·exact .inr ⟨_,a1,a2⟩) (.inl ()) (by simp [kax]) (by simp [kbs])
    have e1':kaa (kax l (kah n)) fuel 0=some r:=by simpa using e1
    have e2':kaa (kbs l (ka0 n)) fuel 0=some r:=by simpa using e2
    have hne:∀ c:Int,r = .inr c→c≠0:=fun c hr=>by
     obtain ⟨r2,r3,f1,f2,f3⟩:=kjf (step:=kax l (kah n)) (step':=kax l (kah n)) l.length (by omega) (fun i=>(i:Int)) (fun i=>(i:Int)) (fun r r'=>∀ c,r = .inr c→c≠0) (fun i hi=>by
      rcases hst i hi with ⟨a1,a2,_⟩ | ⟨c,h0,a1,a2⟩
      ·exact .inl ⟨a1,a1⟩
      ·exact .inr ⟨_,_,a1,a1,fun c' h=>by cases h;exact h0⟩) ⟨.inl (), .inl (),by simp [kax],by simp [kax],fun c h=>by cases h⟩
     have f1':kaa (kax l (kah n)) fuel 0=some r2:=by simpa using f1
     rw [e1'] at f1'
     cases f1'
     exact f3 c hr
    refine ⟨Sum.elim (fun _=>0) id r,?_,?_,fun h0=>?_⟩
    ·simp only [kgy,qc h16,qb,e1',qa];cases r <;> rfl
    ·simp only [kfl,qc h16,qb,e2',qa];cases r <;> rfl
    ·cases r with
     | inr c=>exact absurd h0 (hne c rfl)
     | inl u=>
      intro x hx
      obtain ⟨i,hi,rfl⟩:=qs.1 hx
      have hall:=kl0 (step:=kax l (kah n)) l.length (fun i=>(i:Int)) (.inl u) (fun i hi=>by
       rcases hst i hi with ⟨a1,a2,_⟩ | ⟨c,_,a1,a2⟩
       ·exact .inl a1
       ·exact .inr ⟨_,a1,fun h=>by cases h⟩) fuel 0 e1' i (qx _) hi
      rcases hst i hi with ⟨_,_,h⟩ | ⟨c,_,a1,_⟩
      ·exact h
      ·rw [a1] at hall;cases hall
theorem k3f (t:Int):rkT t≤3:=by unfold rkT;split <;> (try split) <;> omega
theorem kwn {x:Va} (hx:inV x):∃ c,kah fuel x=some c∧ka0 fuel x=some c∧(c=0→okV x):=by
 have h6:2*rkT x.type≤fuel:=qaw (Nat.mul_le_mul_left 2 (k3f x.type)) (by decide)
 obtain ⟨c,h1,h2,h3⟩:=(k0j fuel).1 x h6 hx
 exact ⟨c,h1,h2,fun h=>⟨by have:=h3 h;have:=k3f x.type;omega,hx.1⟩⟩
def kru (r:Ru):Prop:=r.args.length≤9223372036854775807∧inV r.const
theorem k3q {x:Va} (h:eqV x kda=true):x=kda:=k7d x kda (by simpa [eqV] using h)
theorem kakc (l:La) (r:Ru) (hr:kru r):∃ c,kj9 l r=some c∧kcp l r=some c:=by
 obtain ⟨c,h1,h2,_⟩:=kwn hr.2
 exact kaec l r hr.1 (kp0 _) (k8z _) ⟨c,h1,h2⟩
structure GoodR (l:La) (r:Ru):Prop where
 sym0:0≤r.symbol
 sym1:r.symbol<(l.symbols.length:Int)
 kind:r.kind=1∨r.kind=2∨r.kind=3
 noargs:r.kind≠3→r.args=[]
 args:∀ a∈r.args,0≤a∧a<(l.symbols.length:Int)
 few:r.args.length≤5
 fine:okV r.const
theorem kdn {α:Type} {b:Bool} {x y:Option α} {r:α} (h:(bif b then x else y)=some r):(b=true∧x=some r)∨(b=false∧y=some r):=by
 cases b
 ·exact .inr ⟨rfl,h⟩
 ·exact .inl ⟨rfl,h⟩
theorem kd9 {α β:Type} {E:Option α} {K:α→Option β} {r:β} (h:Option.bind E K=some r):∃ v,E=some v∧K v=some r:=qi.1 h
theorem k5i:opNames.all (fun n=>(kbf n).all fun o=>decide (o.1.f_Args.length≤5))=true:=by kernel_rfl
theorem ktw {s:BA} {o:S_api_Operator×Bool} (h:kbf s=some o) (ho:o.2=true):o.1.f_Args.length≤5:=by
 by_cases hin:s∈opNames
 ·have:=qm.1 k5i s hin
  rw [h] at this
  simpa using this
 ·rw [(kv6 s hin).2] at h
  cases h
  cases ho
theorem kabi {l:La} {r:Ru} (ha:r.args.length≤9223372036854775807) (h:kcl l r=some 0):r.args.length≤5∧∀ a∈r.args,0≤a∧a<(l.symbols.length:Int):=by
 unfold kcl at h
 obtain ⟨o,h1,h⟩:=kd9 h
 rcases kdn h with ⟨_,h⟩ | ⟨h2,h⟩
 ·cases h
 rcases kdn h with ⟨_,h⟩ | ⟨h3,h⟩
 ·cases h
 have hlen:r.args.length=o.1.f_Args.length:=by
  have:=bne_eq_false_iff_eq.1 h3
  omega
 have h5:=ktw h1 (by simpa using h2)
 obtain ⟨v,h4,h⟩:=kd9 h
 refine ⟨by omega,fun a hmem=>?_⟩
 have hst:∀ i,i<r.args.length→ka7 l r o (i:Int)=some (.inl ((i+1:Nat):Int))∧(∀ x,r.args[i]?=some x→0≤x∧x<(l.symbols.length:Int))∨∃ c,c≠0∧ka7 l r o (i:Int)=some (.inr (.inr c)):=fun i hi=>by
  have e1:r.args[i]?=some r.args[i]:=List.getElem?_eq_getElem hi
  have hi2:i<o.1.f_Args.length:=by omega
  have e2:o.1.f_Args[i]?=some o.1.f_Args[i]:=List.getElem?_eq_getElem hi2
  have b1:decide ((i:Int)<(r.args.length:Int))=true:=qe (by omega)
  simp only [ka7,b1,qd,kak,e1,e2,qa,kb9 (n:=i) (by omega)]
  by_cases h0:0≤r.args[i]
  ·by_cases h1:r.args[i]<(l.symbols.length:Int)
   ·obtain ⟨x,hx,_⟩:=ksl h0 h1
    rw [qc (show ¬ r.args[i]<0 by omega),qc (show ¬ (l.symbols.length:Int)≤r.args[i] by omega)]
    simp only [qb,qa,hx]
    cases x.type != o.1.f_Args[i] with
    | true=>exact .inr ⟨3,by decide,rfl⟩
    | false=>exact .inl ⟨rfl,fun y hy=>by cases hy;exact ⟨h0,h1⟩⟩
   ·rw [qc (show ¬ r.args[i]<0 by omega),qe (show (l.symbols.length:Int)≤r.args[i] by omega)]
    exact .inr ⟨1,by decide,rfl⟩
  ·rw [qe (show r.args[i]<0 by omega)]
   exact .inr ⟨1,by decide,rfl⟩
 obtain ⟨i,hi,rfl⟩:=qs.1 hmem
 have hv:∀ c:Int,c≠0→(.inr c:Unit ⊕ Int)≠v:=fun c hc he=>by
  subst he
  cases h
  exact hc rfl
 have hall:=kl0 (step:=ka7 l r o) r.args.length (fun i=>(i:Int)) v (fun i hi=>by
  rcases hst i hi with ⟨a1,_⟩ | ⟨c,hc,a1⟩
  ·exact .inl a1
  ·exact .inr ⟨_,a1,hv c hc⟩) fuel 0 h4 i (qx _) hi
 rcases hst i hi with ⟨_,a2⟩ | ⟨c,_,a1⟩
 ·exact a2 _ (List.getElem?_eq_getElem hi)
 ·rw [a1] at hall;cases hall
theorem len0 {α:Type} {xs:List α} (h:((xs.length:Int) == 0)=true):xs=[]:=qz (by have:=eq_of_beq h;omega)
theorem k1w {l:La} {r:Ru} (hr:kru r) (h:kcp l r=some 0):GoodR l r:=by
 unfold kcp at h
 obtain ⟨b1,h1,h⟩:=kd9 h
 rcases kdn h with ⟨_,h⟩ | ⟨h2,h⟩
 ·cases h
 subst h2
 have hs:0≤r.symbol∧r.symbol<(l.symbols.length:Int):=by
  rcases kdn h1 with ⟨_,h1⟩ | ⟨q,h1⟩
  ·cases h1
  ·have q:=qak q
   have q2:=qak (qp h1)
   omega
 obtain ⟨b2,h3,h⟩:=kd9 h
 rcases kdn h with ⟨_,h⟩ | ⟨h4,h⟩
 ·cases h
 subst h4
 rcases kdn h3 with ⟨_,h3⟩ | ⟨q1,h3⟩
 ·cases h3
 rcases kdn h3 with ⟨_,h3⟩ | ⟨q2,h3⟩
 ·cases h3
 have q1:=qak q1
 have q2:=qak q2
 obtain ⟨z,h5,h6⟩:=kd9 h3
 have hz:z=true:=by
  cases z with
  | true=>rfl
  | false=>cases h6
 subst hz
 obtain ⟨x,h7,h⟩:=kd9 h
 unfold kcq at h5
 rw [kp0,qa] at h5
 have hk:r.kind=1∨r.kind=2∨r.kind=3:=by omega
 have okz:eqV r.const kda=true→okV r.const:=fun h=>by rw [k3q h];exact kyj
 rcases hk with hk | hk | hk
 ·have c1:(r.kind == 1)=true:=by rw [hk];rfl
  rw [c1,qd] at h5
  obtain ⟨b,h8,h9⟩:=kd9 h5
  cases h9
  rcases kdn h8 with ⟨e1,h8⟩ | ⟨_,h8⟩
  ·rcases kdn h8 with ⟨e2,h8⟩ | ⟨_,h8⟩
   ·have ha:=len0 (qp h8)
    exact ⟨hs.1,hs.2, .inl hk,fun _=>ha,by rw [ha];intro a h;(cases h),by rw [ha];exact qx _,okz e1⟩
   ·cases h8
  ·cases h8
 ·have c1:(r.kind == 1)=false:=by rw [hk];rfl
  have c2:(r.kind == 2)=true:=by rw [hk];rfl
  rw [c1,qb,c2,qd] at h5
  rw [c1,qb,c2,qd] at h
  obtain ⟨b,h8,h9⟩:=kd9 h5
  cases h9
  obtain ⟨c,g1,g2⟩:=kd9 h
  have hc:c=0:=by
   rcases kdn g2 with ⟨e,g2⟩ | ⟨e,g2⟩
   ·cases g2;rfl
   ·exact bne_eq_false_iff_eq.1 e
  obtain ⟨c',f1,f2,f3⟩:=kwn hr.2
  have hcc:c'=0:=by rw [f2] at g1;cases g1;exact hc
  rcases kdn h8 with ⟨e1,h8⟩ | ⟨_,h8⟩
  ·rcases kdn h8 with ⟨e2,h8⟩ | ⟨_,h8⟩
   ·have ha:=len0 (qp h8)
    exact ⟨hs.1,hs.2, .inr (.inl hk),fun _=>ha,by rw [ha];intro a h;(cases h),by rw [ha];exact qx _,f3 hcc⟩
   ·cases h8
  ·cases h8
 ·have c1:(r.kind == 1)=false:=by rw [hk];rfl
  have c2:(r.kind == 2)=false:=by rw [hk];rfl
  rw [c1,qb,c2,qb] at h5
  rw [c1,qb,c2,qb] at h
  obtain ⟨b,h8,h9⟩:=kd9 h5
  cases h9
  obtain ⟨c,g1,g2⟩:=kd9 h
  cases g2
  obtain ⟨a1,a2⟩:=kabi hr.1 g1
  rcases kdn h8 with ⟨e1,h8⟩ | ⟨_,h8⟩
  ·exact ⟨hs.1,hs.2, .inr (.inr hk),fun h=>absurd hk h,a2,a1,okz (qp h8)⟩
  ·cases h8
theorem GoodR.fineR {l:La} {r:Ru} (h:GoodR l r) (hr:kru r):fineR r:=⟨by have:=h.few;omega,h.fine,hr.2.2⟩
structure khu (l:La):Prop where
 name:l.name.size≤9223372036854775807
 inputs:l.inputs.length≤9223372036854775807
 symbols:l.symbols.length≤9223372036854775807
 rules:l.rules.length≤9223372036854775807
 names:∀ x∈l.symbols,x.name.size≤9223372036854775807
 wide:∀ r∈l.rules,kru r
structure k2r (l:La):Prop where
 inputs:l.inputs.length≤4
 sym1:1≤l.symbols.length
 sym16:l.symbols.length≤16
 rules:l.rules.length≤96
 good:∀ r∈l.rules,GoodR l r
theorem kah7 (l:La) (h:khu l):∃ r,kaa (kcc l) fuel 0=some r∧kaa (ka2 l) fuel 0=some r∧(r = .inl ()→∀ x∈l.rules,GoodR l x)∧(∀ e,r = .inr e→e≠0):=by
 have hl:=h.rules
 have hb:∀ n,n≤l.rules.length→(∃ i,i<n∧∃ e,e≠0∧(∀ j,j<i→kcc l (j:Int)=some (.inl ((j+1:Nat):Int))∧ka2 l (j:Int)=some (.inl ((j+1:Nat):Int)))∧kcc l (i:Int)=some (.inr (.inr e))∧ka2 l (i:Int)=some (.inr (.inr e))) ∨
   ((∀ j,j<n→kcc l (j:Int)=some (.inl ((j+1:Nat):Int))∧ka2 l (j:Int)=some (.inl ((j+1:Nat):Int)))∧∀ j (hj:j<l.rules.length),j<n→GoodR l l.rules[j]):=by
  intro n
  induction n with
  | zero=>intro _;exact .inr ⟨fun j hj=>by omega,fun j _ hj=>by omega⟩
  | succ n ih=>
   intro hn
   rcases ih (by omega) with ⟨i,hi,e,he,hx⟩ | ⟨g1,g2⟩
   ·exact .inl ⟨i,by omega,e,he,hx⟩
   ·have hi:n<l.rules.length:=by omega
    have e1:l.rules[n]?=some l.rules[n]:=List.getElem?_eq_getElem hi
    have b1:decide ((n:Int)<(l.rules.length:Int))=true:=qe (by omega)
    have hw:=h.wide _ (qn hi)
    obtain ⟨c,c1,c2⟩:=kakc l l.rules[n] hw
    by_cases hc:c=0
    ·subst hc
     have hg:=k1w hw c2
     have hall:∀ j (hj:j<l.rules.length),j≤n→fineR l.rules[j]:=fun j hj hjn=>by
      have hwj:=h.wide _ (qn hj)
      by_cases hjn':j=n
      ·subst hjn'; exact hg.fineR hw
      ·exact (g2 j hj (by omega)).fineR hwj
     obtain ⟨b,d1,d2⟩:=kadw l n hi hl hall
     cases b with
     | true=>
      refine .inl ⟨n,by omega,6,by decide,g1,?_,?_⟩
      ·simp only [kcc,b1,qd,kak,e1,qa,c1,k47 l.rules n (by omega),d1];rfl
      ·simp only [ka2,b1,qd,kak,e1,qa,c2,d2];rfl
     | false=>
      refine .inr ⟨fun j hj=>?_,fun j hj hjn=>?_⟩
      ·by_cases hjn:j=n
       ·subst hjn
        constructor
        ·simp only [kcc,b1,qd,kak,e1,qa,c1,k47 l.rules j (by omega),d1,kb9 (n:=j) (by omega)];rfl
        ·simp only [ka2,b1,qd,kak,e1,qa,c2,d2,kb9 (n:=j) (by omega)];rfl
       ·exact g1 j (by omega)
      ·by_cases hjn':j=n
       ·subst hjn'; exact hg
       ·exact g2 j hj (by omega)
    ·refine .inl ⟨n,by omega,c,hc,g1,?_,?_⟩
     ·simp only [kcc,b1,qd,kak,e1,qa,c1,show (c != 0)=true by simpa using hc]
     ·simp only [ka2,b1,qd,kak,e1,qa,c2,show (c != 0)=true by simpa using hc]
 have hend:kcc l (l.rules.length:Int)=some (.inr (.inl ()))∧ka2 l (l.rules.length:Int)=some (.inr (.inl ())):=by
  have b1:decide ((l.rules.length:Int)<(l.rules.length:Int))=false:=qc (by omega)
  simp only [kcc,ka2,b1,qb,and_self]
 rcases hb l.rules.length (qw _) with ⟨i,hi,e,he,hj,a1,a2⟩ | ⟨g1,g2⟩
 ·obtain ⟨r,r',h1,h2,rfl,h3⟩:=kjf (step:=kcc l) (step':=ka2 l) i (by omega) (fun i=>(i:Int)) (fun i=>(i:Int)) (fun r r'=>r=r'∧r = .inr e) (fun j hji => .inl (hj j hji)) ⟨_,_,a1,a2,rfl,rfl⟩
  subst h3
  exact ⟨_,by simpa using h1,by simpa using h2,(fun h=>by cases h),fun e' h=>by cases h;exact he⟩
 ·obtain ⟨r,r',h1,h2,rfl,h3⟩:=kjf (step:=kcc l) (step':=ka2 l) l.rules.length (by omega) (fun i=>(i:Int)) (fun i=>(i:Int)) (fun r r'=>r=r'∧r = .inl ()) (fun j hji => .inl (g1 j hji)) ⟨_,_,hend.1,hend.2,rfl,rfl⟩
  subst h3
  refine ⟨_,by simpa using h1,by simpa using h2,fun _ x hx=>?_,fun e' h=>by cases h⟩
  obtain ⟨i,hi,rfl⟩:=qs.1 hx
  exact g2 i hi hi
theorem k4u (l:La) (h:khu l):∃ c,kdr l=some c∧kb5 l=some c∧(c=0→k2r l):=by
 obtain ⟨b,n1,n2⟩:=kz9 l.name h.name
 obtain ⟨r1,i1,i2,i3⟩:=k5v l h.inputs
 obtain ⟨r2,s1,s2,s3⟩:=k5l l h.symbols h.names
 obtain ⟨r3,t1,t2,t3,t4⟩:=kah7 l h
 have hne:∀ c:Int,c≠0→(c=0→k2r l):=fun c hc h=>absurd h hc
 unfold kdr kb5
 rw [n1,n2]
 simp only [qa]
 cases b with
 | false=>exact ⟨5,rfl,rfl,hne 5 (by decide)⟩
 | true=>
  simp only [qae,qb]
  cases hin:decide (4<(l.inputs.length:Int)) with
  | true=>exact ⟨2,rfl,rfl,hne 2 (by decide)⟩
  | false=>
   have hin:=qak hin
   simp only [qb,i1,i2,qa]
   cases r1 with
   | inr e=>exact ⟨e,rfl,rfl,hne e (i3 e rfl)⟩
   | inl u=>
    simp only [qf]
    have hc:(bif decide ((l.symbols.length:Int)<1) then some true else some (decide (16<(l.symbols.length:Int))):Option Bool)=some (decide ((l.symbols.length:Int)<1) || decide (16<(l.symbols.length:Int))):=by cases decide ((l.symbols.length:Int)<1) <;> rfl
    rw [hc,qa,qa]
    cases hsy:decide ((l.symbols.length:Int)<1) || decide (16<(l.symbols.length:Int)) with
    | true=>exact ⟨2,rfl,rfl,hne 2 (by decide)⟩
    | false=>
     rw [Bool.or_eq_false_iff] at hsy
     have hs1:=qak hsy.1
     have hs2:=qak hsy.2
     simp only [qb,s1,s2,qa]
     cases r2 with
     | inr e=>exact ⟨e,rfl,rfl,hne e (s3 e rfl)⟩
     | inl u=>
      simp only [qf]
      cases hru:decide (96<(l.rules.length:Int)) with
      | true=>exact ⟨2,rfl,rfl,hne 2 (by decide)⟩
      | false=>
       have hru:=qak hru
       simp only [qb,t1,t2,qa]
       cases r3 with
       | inr e=>exact ⟨e,rfl,rfl,hne e (t4 e rfl)⟩
       | inl u=>exact ⟨0,rfl,rfl,fun _=>⟨by omega,by omega,by omega,by omega,t3 rfl⟩⟩
end Go.Proofs.YtaimpcnpifoidaaGreatDoor
