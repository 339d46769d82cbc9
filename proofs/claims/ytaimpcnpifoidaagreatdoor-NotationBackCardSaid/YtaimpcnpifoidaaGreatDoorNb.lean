import Derived.Test.YtaimpcnpifoidaaGreatDoorGu
import Derived.Test.YtaimpcnpifoidaaGreatDoorEv
import Derived.Test.YtaimpcnpifoidaaGreatDoorEv
import Derived.Test.YtaimpcnpifoidaaGreatDoorOpg
import Derived.Test.YtaimpcnpifoidaaGreatDoorZE
import Derived.Lib.DecodeNEq
import Derived.Lib.ItoaNum
set_option linter.unusedVariables false
set_option linter.unusedSimpArgs false
set_option maxRecDepth 100000
namespace Go.Proofs.YtaimpcnpifoidaaGreatDoor
open Go Go.RowKit
def kes (m:Nat) (s:Nat):Int:=if s≤m then (m:Int) - (s:Int) else -1
theorem sizeL_take {l:List Tm} {i:Nat} (h:i<l.length):Tm.sizeL (l.take (i+1))=Tm.sizeL (l.take i)+l[i].size:=by
  rw [List.take_succ_eq_append_getElem h,Tm.sizeL_snoc]
theorem kmy (l:List Tm) (i:Nat):i≤l.length→i≤Tm.sizeL (l.take i)∧Tm.sizeL (l.take i)≤Tm.sizeL l:=by
  intro hi
  induction i with
  | zero=>exact ⟨qx _,by simp [Tm.sizeL]⟩
  | succ i ih=>
    have h1:=ih (by omega)
    have h2:=sizeL_take (l:=l) (i:=i) (by omega)
    have h3:=Tm.size_pos l[i]
    refine ⟨by omega,?_⟩
    have:Tm.sizeL l=Tm.sizeL (l.take (i+1))+Tm.sizeL (l.drop (i+1)):=by
      have gen:∀ a b:List Tm,Tm.sizeL (a++b)=Tm.sizeL a+Tm.sizeL b:=fun a b=>by
        induction a with
        | nil=>simp [Tm.sizeL]
        | cons x a ih=>simp only [qag,Tm.sizeL,ih];omega
      rw [← gen,qa5]
    omega
theorem kpu:∀ (n:Nat) (t:Tm) (m:Nat),m≤10000→m<n→kf5 n t (m:Int)=some (kes m t.size)∧kga n t (m:Int)=some (kes m t.size)
  | 0,t,m,_,h=>by omega
  | n+1,t,m,hm,hn=>by
    show kkd (kf5 n) t (m:Int)=_∧kk7 (kga n) t (m:Int)=_
    obtain ⟨r0,l⟩:=t
    have hsz:(Tm.mk r0 l).size=Tm.sizeL l+1:=rfl
    have hstart:w64 ((m:Int) - 1)=kes m (1+Tm.sizeL (l.take 0)):=by
      rw [kei (by omega) (by omega)]
      simp only [List.take_zero,Tm.sizeL,kes]
      split <;> omega
    obtain ⟨r,r',h1,h2,h3,h4⟩:=kjf (step:=khh (Tm.mk r0 l) (kga n)) (step':=ke7 (Tm.mk r0 l) (kf5 n)) (min l.length m) (by omega)
      (fun i=>(kes m (1+Tm.sizeL (l.take i)),(i:Int))) (fun i=>(kes m (1+Tm.sizeL (l.take i)),(i:Int))) (fun r r'=>Sum.elim id id r=kes m (Tm.sizeL l+1)∧r'=kes m (Tm.sizeL l+1)) (fun i hi=>by
      have hi1:i<l.length:=by omega
      have e1:(Tm.mk r0 l).args[i]?=some l[i]:=List.getElem?_eq_getElem hi1
      have b1:decide ((i:Int)<((Tm.mk r0 l).args.length:Int))=true:=qe (by show (i:Int)<(l.length:Int);omega)
      have hle:=kmy l i (by omega)
      simp only [khh,ke7,b1,qd,qa,kak,e1]
      by_cases hp:1+Tm.sizeL (l.take i)≤m
      · have hv:kes m (1+Tm.sizeL (l.take i))=((m - (1+Tm.sizeL (l.take i)):Nat):Int):=by unfold kes;rw [if_pos hp];omega
        obtain ⟨q1,q2⟩:=kpu n l[i] (m - (1+Tm.sizeL (l.take i))) (by omega) (by omega)
        have hnext:kes (m - (1+Tm.sizeL (l.take i))) l[i].size=kes m (1+Tm.sizeL (l.take (i+1))):=by
          rw [sizeL_take hi1]
          unfold kes
          split <;> split <;> omega
        rw [hv,qe (show (0:Int)≤((m - (1+Tm.sizeL (l.take i)):Nat):Int) by omega),qc (show ¬ ((m - (1+Tm.sizeL (l.take i)):Nat):Int)<0 by omega)]
        simp only [qd,qb,q1,q2,qa,hnext,kb9 (n:=i) (by omega)]
        first | exact .inl ⟨rfl,rfl⟩ | exact .inl ⟨trivial,trivial⟩
      · have hv:kes m (1+Tm.sizeL (l.take i)) = -1:=by unfold kes;rw [if_neg hp]
        have hf:kes m (Tm.sizeL l+1) = -1:=by unfold kes;rw [if_neg (by omega)]
        rw [hv,hf]
        exact .inr ⟨_,_,rfl,rfl,rfl,rfl⟩) (by
      have hle:=kmy l (min l.length m) (by omega)
      by_cases hlm:l.length≤m
      · have hmin:min l.length m=l.length:=by omega
        have b1:decide ((l.length:Int)<((Tm.mk r0 l).args.length:Int))=false:=qc (by show ¬ (l.length:Int)<(l.length:Int);omega)
        have hf:kes m (1+Tm.sizeL l)=kes m (Tm.sizeL l+1):=by rw [Nat.add_comm]
        simp only [hmin,khh,ke7,b1,qb,qa,List.take_length,hf]
        exact ⟨_,_,rfl,rfl,rfl,rfl⟩
      · have hmin:min l.length m=m:=by omega
        rw [hmin] at hle
        have b1:decide ((m:Int)<((Tm.mk r0 l).args.length:Int))=true:=qe (by show (m:Int)<(l.length:Int);omega)
        have hi1:m<l.length:=by omega
        have e1:(Tm.mk r0 l).args[m]?=some l[m]:=List.getElem?_eq_getElem hi1
        have hv:kes m (1+Tm.sizeL (l.take m)) = -1:=by unfold kes;rw [if_neg (by omega)]
        have hf:kes m (Tm.sizeL l+1) = -1:=by unfold kes;rw [if_neg (by omega)]
        simp only [hmin,khh,ke7,b1,qd,qa,kak,e1,hv,hf]
        exact ⟨_,_,rfl,rfl,rfl,rfl⟩)
    have h1':kaa (khh (Tm.mk r0 l) (kga n)) fuel (w64 ((m:Int) - 1),0)=some r:=by rw [hstart];simpa using h1
    have h2':kaa (ke7 (Tm.mk r0 l) (kf5 n)) fuel (w64 ((m:Int) - 1),0)=some r':=by rw [hstart];simpa using h2
    unfold kkd kk7
    rw [h1',h2',hsz,← h4]
    refine ⟨rfl,?_⟩
    rw [h4,← h3]
    cases r <;> rfl
theorem kk0 {t:Tm}:Tm.sizeL t.args+1=t.size:=by cases t;rfl
theorem kgd (l:List Tm):l.length≤Tm.sizeL l:=by
  have:=(kmy l l.length (qw _)).1
  rw [List.take_length] at this
  exact this
theorem k5s {l:List Tm} {i:Nat} (h:i<l.length):Tm.depthL (l.take (i+1))=max (Tm.depthL (l.take i)) l[i].depth:=by
  rw [List.take_succ_eq_append_getElem h,Tm.depthL_snoc]
theorem k2i (t:Tm):t.depth≤t.size:=by
  refine Tm.ind (P:=fun t=>t.depth≤t.size) (fun r l ih=>?_) t
  show Tm.depthL l+1≤Tm.sizeL l+1
  have:∀ l:List Tm,(∀ t∈l,t.depth≤t.size)→Tm.depthL l≤Tm.sizeL l:=fun l=>by
    induction l with
    | nil=>exact fun _=>qw _
    | cons x l ih=>
      intro h
      have h1:=h x (qo ..)
      have h2:=ih fun t ht=>h t (qk _ ht)
      show max x.depth (Tm.depthL l)≤x.size+Tm.sizeL l
      omega
  have:=this l ih
  omega
theorem k5d:∀ (n:Nat) (t:Tm),t.size≤1000→t.size≤n→kfx n t=some (t.depth:Int)
  | 0,t,_,h=>by have:=Tm.size_pos t;omega
  | n+1,t,ht,hn=>by
    show kj2 (kfx n) t=_
    obtain ⟨r0,l⟩:=t
    have hsz:(Tm.mk r0 l).size=Tm.sizeL l+1:=rfl
    have hlen:=kgd l
    have hl:=kum (step:=kf1 (Tm.mk r0 l) (kfx n)) l.length (by omega) (fun i=>((Tm.depthL (l.take i):Int),(i:Int))) (Tm.depthL l:Int) (fun i hi=>by
      have e1:(Tm.mk r0 l).args[i]?=some l[i]:=List.getElem?_eq_getElem hi
      have b1:decide ((i:Int)<((Tm.mk r0 l).args.length:Int))=true:=qe (by show (i:Int)<(l.length:Int);omega)
      have hs:=Tm.sizeL_mem (qn hi)
      have q:=k5d n l[i] (by omega) (by omega)
      have hmax:imax (Tm.depthL (l.take i):Int) (l[i].depth:Int)=(Tm.depthL (l.take (i+1)):Int):=by
        rw [k5s hi]
        unfold imax
        split <;> omega
      simp only [kf1,b1,qd,kak,e1,qa,q,hmax,kb9 (n:=i) (by omega)]) (by
      have b1:decide ((l.length:Int)<((Tm.mk r0 l).args.length:Int))=false:=qc (by show ¬ (l.length:Int)<(l.length:Int);omega)
      simp only [kf1,b1,qb,List.take_length])
    have hl':kaa (kf1 (Tm.mk r0 l) (kfx n)) fuel (0,0)=some (Tm.depthL l:Int):=by simpa [Tm.depthL] using hl
    unfold kj2
    rw [hl',qa]
    have hd:=k2i (Tm.mk r0 l)
    have hd2:(Tm.mk r0 l).depth=Tm.depthL l+1:=rfl
    rw [kb9 (by omega),hd2]
theorem ksh:∀ (n:Nat) (t:Tm) (k:Nat),k≤1000→t.size≤1000→t.size≤n→kgb n t (k:Int)=some (decide (t.depth≤k))
  | 0,t,k,_,_,h=>by have:=Tm.size_pos t;omega
  | n+1,t,k,hk,ht,hn=>by
    show kj8 (kgb n) t (k:Int)=_
    obtain ⟨r0,l⟩:=t
    have hsz:(Tm.mk r0 l).size=Tm.sizeL l+1:=rfl
    have hd2:(Tm.mk r0 l).depth=Tm.depthL l+1:=rfl
    have hlen:=kgd l
    unfold kj8
    by_cases h0:k=0
    · subst h0
      rw [qc (show ¬ (Tm.mk r0 l).depth≤0 by omega)]
      rfl
    · have c0:((k:Int) == 0)=false:=by rw [qy];omega
      rw [c0]
      have hl:=kkp (step:=kid (Tm.mk r0 l) (k:Int) (kgb n)) l.length (by omega) (fun i=>(i:Int)) (fun i=>if (l.drop i).all (fun t=>decide (t.depth≤k - 1))=true then .inl () else .inr false) (fun i hi=>by
        have e1:(Tm.mk r0 l).args[i]?=some l[i]:=List.getElem?_eq_getElem hi
        have b1:decide ((i:Int)<((Tm.mk r0 l).args.length:Int))=true:=qe (by show (i:Int)<(l.length:Int);omega)
        have hs:=Tm.sizeL_mem (qn hi)
        have hsub:w64 ((k:Int) - 1)=((k - 1:Nat):Int):=by rw [kei (by omega) (by omega)];omega
        have q:=ksh n l[i] (k - 1) (by omega) (by omega) (by omega)
        have hd:l.drop i=l[i]::l.drop (i+1):=qv hi
        simp only [kid,b1,qd,kak,e1,qa,hsub,q,hd,List.all_cons,kb9 (n:=i) (by omega)]
        cases decide (l[i].depth≤k - 1) with
        | true=>exact .inl ⟨rfl,by simp⟩
        | false=>exact .inr rfl) (by
        have b1:decide ((l.length:Int)<((Tm.mk r0 l).args.length:Int))=false:=qc (by show ¬ (l.length:Int)<(l.length:Int);omega)
        simp only [kid,b1,qb,List.drop_length,List.all_nil,if_true])
      have hl':kaa (kid (Tm.mk r0 l) (k:Int) (kgb n)) fuel 0=some (if l.all (fun t=>decide (t.depth≤k - 1))=true then .inl () else .inr false):=by simpa using hl
      have hall:l.all (fun t=>decide (t.depth≤k - 1))=decide ((Tm.mk r0 l).depth≤k):=by
        have gen:∀ l:List Tm,l.all (fun t=>decide (t.depth≤k - 1))=decide (Tm.depthL l≤k - 1):=fun l=>by
          induction l with
          | nil=>simp [Tm.depthL]
          | cons x l ih=>
            rw [List.all_cons,ih,← Bool.decide_and]
            exact qa0.2 (by show _↔max x.depth (Tm.depthL l)≤k - 1;omega)
        rw [gen]
        exact qa0.2 (by omega)
      simp only [qb]
      rw [hl',hall,qa]
      cases decide ((Tm.mk r0 l).depth≤k) <;> rfl
theorem knv:∀ (n:Nat) (l:La) (s:Int) (t:Tm),t.size≤1000→t.size≤n→(∀ x∈l.rules,x.kind≠3→x.args.length=0)→∃ c,kbh n l s t=some c∧kf4 n l s t=some c
  | 0,l,s,t,_,h,_=>by have:=Tm.size_pos t;omega
  | n+1,l,s,t,ht,hn,hr=>by
    show ∃ c,kd5 (kbh n) l s t=some c∧kkc (kf4 n) l s t=some c
    obtain ⟨r0,ts⟩:=t
    have hsz:(Tm.mk r0 ts).size=Tm.sizeL ts+1:=rfl
    have hlen:=kgd ts
    unfold kd5 kkc
    have hrr:(Tm.mk r0 ts).rule=r0:=rfl
    have haa:(Tm.mk r0 ts).args=ts:=rfl
    simp only [hrr,haa]
    by_cases h0:r0<0
    · rw [qe h0];exact ⟨1,rfl,rfl⟩
    by_cases h1:(l.rules.length:Int)≤r0
    · rw [qc h0,qe h1];exact ⟨1,rfl,rfl⟩
    rw [qc h0,qc h1]
    obtain ⟨x,hx,hxm⟩:=ksl (xs:=l.rules) (i:=r0) (by omega) (by omega)
    simp only [qb,qa,hx]
    cases x.symbol != s with
    | true=>exact ⟨3,rfl,rfl⟩
    | false=>
      have har:kk1 x=some (x.args.length:Int):=by
        unfold kk1
        by_cases hk:x.kind=3
        · rw [show (x.kind != 3)=false by rw [bne_eq_false_iff_eq];exact hk];rfl
        · rw [show (x.kind != 3)=true by rw [qas];exact hk,hr x hxm hk];rfl
      simp only [qb,har,qa]
      by_cases hl:(ts.length:Int)=(x.args.length:Int)
      · rw [show ((ts.length:Int) != (x.args.length:Int))=false by rw [bne_eq_false_iff_eq];exact hl]
        obtain ⟨r,h1,h2⟩:=kpr (step:=kb6 l (Tm.mk r0 ts) (kbh n) x) (step':=kgc l (Tm.mk r0 ts) (kf4 n) x) ts.length (by omega) (fun i=>(i:Int)) (fun i hi=>by
          have e1:ts[i]?=some ts[i]:=List.getElem?_eq_getElem hi
          have hi2:i<x.args.length:=by omega
          have e2:x.args[i]?=some x.args[i]:=List.getElem?_eq_getElem hi2
          have b1:decide ((i:Int)<(ts.length:Int))=true:=qe (by omega)
          have hs:=Tm.sizeL_mem (qn hi)
          obtain ⟨c,c1,c2⟩:=knv n l x.args[i] ts[i] (by omega) (by omega) hr
          simp only [kb6,kgc,haa,b1,qd,kak,e1,e2,qa,c1,c2,kb9 (n:=i) (by omega)]
          cases c != 0 with
          | true=>exact .inr ⟨_,rfl,rfl⟩
          | false=>exact .inl ⟨rfl,rfl⟩) (.inl ()) (by
          have b1:decide ((ts.length:Int)<(ts.length:Int))=false:=qc (by omega)
          simp only [kb6,haa,b1,qb]) (by
          have b1:decide ((ts.length:Int)<(ts.length:Int))=false:=qc (by omega)
          simp only [kgc,haa,b1,qb])
        have h1':kaa (kb6 l (Tm.mk r0 ts) (kbh n) x) fuel 0=some r:=by simpa using h1
        have h2':kaa (kgc l (Tm.mk r0 ts) (kf4 n) x) fuel 0=some r:=by simpa using h2
        simp only [qb,h1',h2',qa]
        cases r <;> exact ⟨_,rfl,rfl⟩
      · rw [show ((ts.length:Int) != (x.args.length:Int))=true by rw [qas];exact hl]
        exact ⟨4,rfl,rfl⟩
theorem k1m (t:Tm) (m:Nat) (hm:m≤10000):kgp t (m:Int)=some (decide (t.size≤m)):=by
  unfold kgp
  rw [(kpu fuel t m hm (kbg (by omega))).1,qa]
  refine congrArg some (qa0.2 ?_)
  unfold kes
  split <;> omega
theorem k9x (l:La) (s:Int) (t:Tm) (hl:khu l) (ht:t.size≤1000):∃ c,keu l s t=some c∧kg3 l s t=some c∧(c=0→k2r l∧kbh fuel l s t=some 0):=by
  obtain ⟨c,c1,c2,c3⟩:=k4u l hl
  unfold keu kg3
  rw [c1,c2]
  simp only [qa]
  by_cases hc:c=0
  · subst hc
    have hz:((0:Int) != 0)=false:=rfl
    rw [hz]
    simp only [qb]
    by_cases s0:s<0
    · rw [qe s0];exact ⟨1,rfl,rfl,fun h=>absurd h (by decide)⟩
    by_cases s1:(l.symbols.length:Int)≤s
    · rw [qc s0,qe s1];exact ⟨1,rfl,rfl,fun h=>absurd h (by decide)⟩
    have hb:kga fuel t 4096=some (kes 4096 t.size):=(kpu fuel t 4096 (by omega) (kbg (by omega))).2
    have hw:kgp t 4096=some (decide (t.size≤4096)):=k1m t 4096 (by omega)
    have hs:kgb fuel t 32=some (decide (t.depth≤32)):=ksh fuel t 32 (by omega) (by omega) (qa2 (kbg (by omega)))
    have hd:=k5d fuel t (by omega) (qa2 (kbg (by omega)))
    have hneg:decide (kes 4096 t.size<0)=false:=qc (by unfold kes;split <;> omega)
    rw [qc s0,qc s1]
    simp only [qb,qa,hb,hw,hs,hd,hneg,qe (show t.size≤4096 by omega),qae]
    have hde:(!(decide (t.depth≤32)))=decide ((32:Int)<(t.depth:Int)):=by
      rw [← decide_not]
      exact qa0.2 (by omega)
    rw [hde]
    cases decide ((32:Int)<(t.depth:Int)) with
    | true=>exact ⟨2,rfl,rfl,fun h=>absurd h (by decide)⟩
    | false=>
      obtain ⟨d,d1,d2⟩:=knv fuel l s t (by omega) (qa2 (kbg (by omega))) (fun x hx hk=>by rw [((c3 rfl).good x hx).noargs hk];rfl)
      simp only [qb,d1,d2,qa]
      exact ⟨d,rfl,rfl,fun h=>⟨c3 rfl,by rw [h]⟩⟩
  · rw [show (c != 0)=true by rw [qas];exact hc]
    exact ⟨c,rfl,rfl,fun h=>absurd h hc⟩
theorem w64n (n:Nat) (h:n≤9223372036854775807):w64 (n:Int)=n:=kei (by omega) (by omega)
theorem w64s (n:Nat) (h:n≤9223372036854775806):w64 ((n:Int)+1)=((n+1:Nat):Int):=kb9 (by omega)
theorem kih {σ β:Type} {st:σ→Option (σ ⊕ β)} {s s':σ} {n:Nat} (h:st s=some (.inl s')):kaa st (n+1) s=kaa st n s':=by rw [kaa,h]
theorem kdi {σ β:Type} {st:σ→Option (σ ⊕ β)} {s:σ} {b:β} {n:Nat} (h:st s=some (.inr b)):kaa st (n+1) s=some b:=by rw [kaa,h]
def mk (s:List Bool) (i:Nat):Bool:=s.getD i false
theorem kaej {α γ:Type} {a b:List α} {g:γ} {step:Int→Option (Int ⊕ (Unit ⊕ γ))} (hl:a.length=b.length) (hn:a.length≤4000000000)
    (hs:∀ i (h:i<a.length) (h':i<b.length),∃ t:Bool,step (i:Int)=(bif t then some (.inr (.inr g)) else some (.inl (w64 ((i:Int)+1))))∧(t=false↔a[i]=b[i])) (he:step (a.length:Int)=some (.inr (.inl ()))):
    Ev (kaa step fuel 0) fun r=>(r = .inl ()∧a=b)∨(r = .inr g∧a≠b):=by
  refine ki5 a.length (fun i s=>s=(i:Int)∧∀ j (h1:j<a.length) (h2:j<b.length),j<i→a[j]=b[j]) (by omega) ⟨rfl,fun j _ _ h=>by omega⟩ (fun i s hi ⟨e,h⟩=>?_) (fun s ⟨e,h⟩=>?_)
  · subst e
    obtain ⟨t,h1,h2⟩:=hs i hi (by omega)
    rw [h1]
    cases t with
    | true=>exact kaf (.inr ⟨rfl,fun hab=>by subst hab;exact absurd (h2.2 rfl) (by decide)⟩)
    | false=>
      refine kaf ⟨w64s i (by omega),fun j a1 a2 hj=>?_⟩
      by_cases hji:j=i
      · subst hji;exact h2.1 rfl
      · exact h j a1 a2 (by omega)
  · subst e
    rw [he]
    exact kaf ⟨_,rfl, .inl ⟨rfl,List.ext_getElem hl fun j h1 h2=>h j h1 h2 h1⟩⟩
theorem k6a {α:Type} {a b:List α}:((a.length:Int) != (b.length:Int))=!decide (a.length=b.length):=by
  by_cases h:a.length=b.length
  · rw [h];simp
  · rw [qc h,qat,qas];omega
theorem kad4 {a b:List Int} (ha:a.length≤4000000000):Ev (kcu a b) fun c=>c=true↔a=b:=by
  unfold kcu
  rw [k6a]
  by_cases h:a.length=b.length
  · rw [qe h,qae,qb]
    refine kdy ((kaej (g:=false) h ha (fun i h1 h2=>⟨a[i] != b[i],?_,by simp⟩) ?_).mono fun r hr=>?_)
    · simp only [kgj,kbb h1,qd,kak,List.getElem?_eq_getElem h1,List.getElem?_eq_getElem h2,qa]
    · simp only [kgj,kez,qb]
    · rcases hr with ⟨rfl,hr⟩ | ⟨rfl,hr⟩
      · exact kaf (by simp [hr])
      · exact kaf (by simp [hr])
  · rw [qc h,qat,qd]
    exact kaf (by simp;intro e;exact h (by rw [e]))
theorem beqB_iff {a b:BA}:(a.toList == b.toList)=true↔a=b:=by
  rw [beq_iff_eq]
  exact ⟨kjp,fun h=>by rw [h]⟩
def modR (r:Ru):Prop:=r.args.length≤4000000000∧okV r.const
theorem kaj4 {a b:Ru} (h1:a.symbol=b.symbol) (h2:a.kind=b.kind) (h3:a.input=b.input) (h4:a.op=b.op) (h5:a.args=b.args) (h6:a.const=b.const):a=b:=by
  cases a;cases b;simp_all
theorem kabb {a b:Ru} {S:List Int→List Int→Option Bool} {E:Va→Va→Option Bool} (hS:Ev (S a.args b.args) fun c=>c=true↔a.args=b.args) (hE:E a.const b.const=some (eqV a.const b.const)):
    Ev (Option.bind ((bif (a.symbol == b.symbol) then (bif (a.kind == b.kind) then (bif (a.input == b.input) then (bif (a.op.toList == b.op.toList) then (Option.bind (S a.args b.args) fun v1=>(bif v1 then (Option.bind (E a.const b.const) fun v2=>(some (v2))) else (some (false)))) else (some (false))) else (some (false))) else (some (false))) else (some (false))):Option Bool) fun v4=>some v4) fun c=>c=true↔a=b:=by
  refine kdy ?_
  have hne:∀ {p:Prop},¬ p→(false=true↔p):=fun h=>by simp [h]
  refine kdk (fun h1=>?_) fun h1=>kaf (kaf (hne fun e=>by subst e;simp at h1))
  refine kdk (fun h2=>?_) fun h2=>kaf (kaf (hne fun e=>by subst e;simp at h2))
  refine kdk (fun h3=>?_) fun h3=>kaf (kaf (hne fun e=>by subst e;simp at h3))
  refine kdk (fun h4=>?_) fun h4=>kaf (kaf (hne fun e=>by subst e;simp at h4))
  refine kdy (hS.mono fun c hc=>?_)
  refine kdk (fun h5=>?_) fun h5=>kaf (kaf (hne fun e=>by subst e;rw [hc.2 rfl] at h5;cases h5))
  rw [hE]
  refine kaf (kaf ?_)
  rw [k0x]
  exact ⟨fun h6=>kaj4 (eq_of_beq h1) (eq_of_beq h2) (eq_of_beq h3) (beqB_iff.1 h4) (hc.1 h5) h6,fun e=>by rw [e]⟩
theorem kaa6 {a b:Ru} (ha:modR a) (hb:modR b):True∧(Ev (kdo a b) fun c=>c=true↔a=b):=
  ⟨trivial,kabb (S:=kcu) (E:=kch) (kad4 ha.1) (kvc ha.2 hb.2)⟩
theorem GoodR.mod {l:La} {r:Ru} (h:GoodR l r):modR r:=⟨by have:=h.few;omega,h.fine⟩
def syD:Sy:=⟨⟨#[]⟩,0⟩
theorem krd {β:Type} {step:Int→Option (Int ⊕ β)} {b0:β} (n:Nat) (hn:n≤9223372036854775807) (G:Nat→Prop) (Bad:β→Prop)
    (hs:∀ i,i<n→(∀ j,j<i→G j)→Ev (step (i:Int)) fun r=>(r = .inl (w64 ((i:Int)+1))∧G i)∨∃ b,r = .inr b∧Bad b∧¬ G i) (he:step (n:Int)=some (.inr b0)):
    Ev (kaa step fuel 0) fun r=>(r=b0∧∀ i,i<n→G i)∨(Bad r∧¬ ∀ i,i<n→G i):=by
  refine ki5 n (fun i s=>s=(i:Int)∧∀ j,j<i→G j) (by omega) ⟨rfl,fun j hj=>by omega⟩ (fun i s hi ⟨e,h⟩=>?_) (fun s ⟨e,h⟩=>?_)
  · subst e
    obtain ⟨r,h1,h2⟩:=hs i hi h
    rcases h2 with ⟨rfl,h2⟩ | ⟨b,rfl,h2,h3⟩
    · refine ⟨_,h1,w64s i (by omega),fun j hj=>?_⟩
      rcases Nat.lt_succ_iff_lt_or_eq.1 hj with hj | rfl
      · exact h j hj
      · exact h2
    · exact ⟨_,h1, .inr ⟨h2,fun hall=>h3 (hall i hi)⟩⟩
  · subst e
    exact ⟨_,he,_,rfl, .inl ⟨rfl,h⟩⟩
def letC (c:UInt8):Prop:=(97≤c.toNat∧c.toNat≤122)∨(65≤c.toNat∧c.toNat≤90)
def digC (c:UInt8):Prop:=48≤c.toNat∧c.toNat≤57
def kpa (s:BA):Prop:=(1≤s.size∧s.size≤24)∧∀ i (h:i<s.data.toList.length),letC s.data.toList[i]∨(0<i∧(s.data.toList[i]=45∨digC s.data.toList[i]))
theorem k3t {s:BA} (hs:s.size≤9223372036854775807):Ev (kd3 s) fun b=>b=true↔kpa s:=by
  unfold kd3
  have hlen:s.data.toList.length=s.size:=by rw [← ka4]
  refine kdy ((krd (b0 := .inl ()) s.size hs (fun i=>∀ h:i<s.data.toList.length,letC s.data.toList[i]∨(0<i∧(s.data.toList[i]=45∨digC s.data.toList[i]))) (fun b=>b = .inr false) (fun i hi _=>?_) (by simp only [kcj,qc (show ¬ ((s.size:Nat):Int)<(s.size:Int) by omega),qb])).mono fun r hr=>?_)
  · have hi':i<s.data.toList.length:=by omega
    have hb:byt s (i:Int)=some ((s.data.toList[i]'hi').toNat:Int):=by rw [km1,List.getElem?_eq_getElem hi'];rfl
    generalize hc:s.data.toList[i]'hi'=c at hb
    have h45:(((c.toNat:Int) != 45)=true)↔c≠45:=by
      rw [qas]
      refine ⟨fun h e=>h (by rw [e];rfl),fun h e=>h (qa1.1 (show c.toNat=45 by omega))⟩
    unfold kcj
    simp only [qe (show (i:Int)<(s.size:Int) by omega),qd,hb,qa]
    have e1:(bif decide (97≤(c.toNat:Int)) then bif decide ((c.toNat:Int)≤122) then some true else bif decide (65≤(c.toNat:Int)) then some (decide ((c.toNat:Int)≤90)) else some false
        else bif decide (65≤(c.toNat:Int)) then some (decide ((c.toNat:Int)≤90)) else some false:Option Bool)=some (decide ((97≤c.toNat∧c.toNat≤122)∨(65≤c.toNat∧c.toNat≤90))):=by
      rw [show decide (97≤(c.toNat:Int))=decide (97≤c.toNat) by rw [qa0];omega,show decide ((c.toNat:Int)≤122)=decide (c.toNat≤122) by rw [qa0];omega,show decide (65≤(c.toNat:Int))=decide (65≤c.toNat) by rw [qa0];omega,show decide ((c.toNat:Int)≤90)=decide (c.toNat≤90) by rw [qa0];omega]
      by_cases q1:97≤c.toNat <;> by_cases q2:c.toNat≤122 <;> by_cases q3:65≤c.toNat <;> by_cases q4:c.toNat≤90 <;> simp [q1,q2,q3,q4] <;> omega
    rw [e1,qa]
    by_cases hl:letC c
    · rw [qe (show (97≤c.toNat∧c.toNat≤122)∨(65≤c.toNat∧c.toNat≤90) from hl)]
      exact kaf (.inl ⟨rfl,fun _=>by rw [hc];exact .inl hl⟩)
    · rw [qc (show ¬ ((97≤c.toNat∧c.toNat≤122)∨(65≤c.toNat∧c.toNat≤90)) from hl)]
      simp only [qat,qd]
      by_cases h0:i=0
      · subst h0
        simp only [Int.natCast_zero,qa3,qd,qa]
        refine kaf (.inr ⟨_,rfl,rfl,fun hh=>?_⟩)
        have:=hh hi'
        rw [hc] at this
        rcases this with h | ⟨h,_⟩
        · exact hl h
        · omega
      · have hb0:((i:Int) == 0)=false:=by rw [qy];omega
        simp only [hb0,qb]
        by_cases h4:c=45
        · have:((c.toNat:Int) != 45)=false:=by rw [h4];rfl
          simp only [this,qb,qa]
          exact kaf (.inl ⟨rfl,fun _=>by rw [hc];exact .inr ⟨by omega, .inl h4⟩⟩)
        · simp only [h45.2 h4,qd]
          by_cases q1:(c.toNat:Int)<48
          · simp only [qe q1,qd,qa]
            refine kaf (.inr ⟨_,rfl,rfl,fun hh=>?_⟩)
            have:=hh hi'
            rw [hc] at this
            rcases this with h | ⟨_,h | h⟩
            · exact hl h
            · exact h4 h
            · have:=h.1;omega
          · by_cases q2:57<(c.toNat:Int)
            · simp only [qc q1,qe q2,qb,qd,qa]
              refine kaf (.inr ⟨_,rfl,rfl,fun hh=>?_⟩)
              have:=hh hi'
              rw [hc] at this
              rcases this with h | ⟨_,h | h⟩
              · exact hl h
              · exact h4 h
              · have:=h.2;omega
            · simp only [qc q1,qc q2,qb,qa]
              exact kaf (.inl ⟨rfl,fun _=>by rw [hc];exact .inr ⟨by omega, .inr ⟨by omega,by omega⟩⟩⟩)
  · rcases hr with ⟨rfl,hr⟩ | ⟨rfl,hr⟩
    · simp only [qf]
      have hp:kpa s↔(1≤s.size∧s.size≤24):=⟨fun h=>h.1,fun h=>⟨h,fun i hi=>hr i (by omega) hi⟩⟩
      rw [hp]
      refine kdy (kdk (fun h=>kaf (kaf ?_)) fun h=>kaf (kaf ?_))
      · have:=q9 h
        rw [decide_eq_true_eq];omega
      · have:=qak h
        simp;omega
    · exact kaf ⟨fun h=>by simp at h,fun h=>absurd (fun i _ hi'=>h.2 i hi') hr⟩
def tyOf (l:La) (a:Int):Int:=(l.symbols.getD a.toNat syD).type
theorem k3p {l:La} {a:Int} (h0:0≤a) (h1:a<(l.symbols.length:Int)):∃ x,idx l.symbols a=some x∧x.type=tyOf l a:=by
  refine ⟨l.symbols[a.toNat]'(by omega),?_,?_⟩
  · unfold idx;rw [if_pos h0,List.getElem?_eq_getElem]
  · unfold tyOf;rw [List.getD_eq_getElem?_getD,List.getElem?_eq_getElem (by omega)];rfl
def ValidR (l:La) (r:Ru):Prop:=
  (0≤r.symbol∧r.symbol<(l.symbols.length:Int)) ∧
  ((r.kind=1∧r.const=kda∧r.op=⟨#[]⟩∧r.args=[]∧(0≤r.input∧r.input<(l.inputs.length:Int))∧l.inputs.getD r.input.toNat 0=tyOf l r.symbol) ∨
   (r.kind=2∧r.input=0∧r.op=⟨#[]⟩∧r.args=[]∧kah fuel r.const=some 0∧r.const.type=tyOf l r.symbol) ∨
   (r.kind=3∧r.input=0∧r.const=kda∧∃ o,kbf r.op=some (o,true)∧r.args.length=o.f_Args.length∧(∀ i (h:i<r.args.length),(0≤r.args[i]∧r.args[i]<(l.symbols.length:Int))∧o.f_Args[i]?=some (tyOf l r.args[i]))∧tyOf l r.symbol=o.f_Result))
theorem k4d {x:Va}:eqV x kda=true↔x=kda:=k0x
theorem k7i {s:BA}:(s.toList == (⟨#[]⟩:BA).toList)=true↔s=⟨#[]⟩:=beqB_iff
theorem k7s {α:Type} {xs:List α}:((xs.length:Int) == 0)=true↔xs=[]:=by
  rw [beq_iff_eq]
  cases xs with
  | nil=>simp
  | cons x xs=>simp;omega
theorem kagi {a b c:Bool} {p q r:Prop} (ha:a=true↔p) (hb:b=true↔q) (hc:c=true↔r):Ev (bif a then bif b then some c else some false else some false:Option Bool) fun x=>x=true↔p∧q∧r:=by
  cases a <;> cases b <;> simp at ha hb <;> refine kaf ?_ <;> simp [ha,hb,hc]
theorem kad8 (r:Ru):Ev (kcq r) fun b=>b=true↔(r.kind=1∧r.const=kda∧r.op=⟨#[]⟩∧r.args=[])∨(r.kind=2∧r.input=0∧r.op=⟨#[]⟩∧r.args=[])∨(r.kind≠1∧r.kind≠2∧r.input=0∧r.const=kda):=by
  unfold kcq
  rw [kp0,qa]
  refine kdk (fun h1=>?_) fun h1=>kdk (fun h2=>?_) fun h2=>?_
  · have h1:=eq_of_beq h1
    refine kdy ((kagi k4d k7i k7s).mono fun c hc=>kaf (hc.trans ?_))
    simp [h1]
  · have h2:=eq_of_beq h2
    refine kdy ((kagi beq_iff_eq k7i k7s).mono fun c hc=>kaf (hc.trans ?_))
    simp [h2]
  · have h1:r.kind≠1:=by simpa using h1
    have h2:r.kind≠2:=by simpa using h2
    refine kdy (kdk (fun h=>kaf (kaf ?_)) fun h=>kaf (kaf ?_))
    · have h:=eq_of_beq h
      rw [k4d];simp [h1,h2,h]
    · have h:r.input≠0:=by simpa using h
      simp [h1,h2,h]
theorem out_iff {a n:Int}:Ev (bif decide (a<0) then some true else some (decide (n≤a)):Option Bool) fun b=>b=true↔¬ (0≤a∧a<n):=by
  refine kdk (fun h=>kaf ?_) fun h=>kaf ?_
  · have:=q9 h;simp;omega
  · have:=qak h;rw [decide_eq_true_eq];omega
theorem kh1 {c:Int} {p:Prop} (h1:c≠0) (h2:¬ p):c=0↔p:=⟨fun h=>absurd h h1,fun h=>absurd h h2⟩
theorem kafv {l:La} {r:Ru} (ha:r.args.length≤9223372036854775807) (hs:0≤r.symbol∧r.symbol<(l.symbols.length:Int)):Ev (kcl l r) fun c=>c=0↔∃ o,kbf r.op=some (o,true)∧r.args.length=o.f_Args.length∧(∀ i (h:i<r.args.length),(0≤r.args[i]∧r.args[i]<(l.symbols.length:Int))∧o.f_Args[i]?=some (tyOf l r.args[i]))∧tyOf l r.symbol=o.f_Result:=by
  obtain ⟨⟨o,ok⟩,_,hf⟩:=kv2 r.op
  unfold kcl
  rw [hf,qa]
  refine kdk (fun h=>kaf ?_) fun h=>?_
  · have h:ok=false:=by simpa using h
    subst h
    exact kh1 (by decide) fun ⟨o',h1,_⟩=>by simp at h1
  have h:ok=true:=by simpa using h
  subst h
  rw [k6a]
  refine kdk (fun h=>kaf ?_) fun h=>?_
  · have h:¬ r.args.length=o.f_Args.length:=by simpa using h
    exact kh1 (by decide) fun ⟨o',h1,h2,_⟩=>by simp at h1;subst h1;exact h h2
  have hl:r.args.length=o.f_Args.length:=by simpa using h
  refine kdy ((krd (b0 := .inl ()) r.args.length ha (fun i=>∀ h:i<r.args.length,(0≤r.args[i]∧r.args[i]<(l.symbols.length:Int))∧o.f_Args[i]?=some (tyOf l r.args[i])) (fun b=>∃ e:Int,b = .inr e∧e≠0) (fun i hi _=>?_) (by simp only [ka7,kez,qb])).mono fun v hv=>?_)
  · unfold ka7
    simp only [kbb hi,qd,kak,List.getElem?_eq_getElem hi,qa]
    refine kdy (out_iff.mono fun b hb=>?_)
    refine kdk (fun h=>kaf (.inr ⟨_,rfl,⟨1,rfl,by decide⟩,fun hh=>hb.1 h (hh hi).1⟩)) fun h=>?_
    have hr:0≤r.args[i]∧r.args[i]<(l.symbols.length:Int):=Classical.byContradiction fun hn=>by rw [hb.2 hn] at h;cases h
    obtain ⟨x,hx,hx2⟩:=k3p hr.1 hr.2
    have hi2:i<o.f_Args.length:=by omega
    rw [hx,qa,List.getElem?_eq_getElem hi2,qa]
    refine kdk (fun h=>kaf (.inr ⟨_,rfl,⟨3,rfl,by decide⟩,fun hh=>?_⟩)) fun h=>kaf (.inl ⟨rfl,fun _=>⟨hr,?_⟩⟩)
    · have:=(hh hi).2
      rw [qh] at this
      rw [hx2,← this] at h
      simp at h
    · rw [bne_eq_false_iff_eq] at h
      rw [← h,hx2]
  · rcases hv with ⟨rfl,hv⟩ | ⟨⟨e,rfl,he⟩,hv⟩
    · simp only [qf]
      obtain ⟨x,hx,hx2⟩:=k3p hs.1 hs.2
      rw [hx,qa]
      refine kdk (fun h=>kaf ?_) fun h=>kaf ?_
      · refine kh1 (by decide) fun ⟨o',h1,_,_,h4⟩=>?_
        simp at h1;subst h1
        rw [hx2,h4] at h;simp at h
      · rw [bne_eq_false_iff_eq,hx2] at h
        exact ⟨fun _=>⟨o,rfl,hl,fun i hi=>hv i hi hi,h⟩,fun _=>rfl⟩
    · exact kaf (kh1 he fun ⟨o',h1,_,h3,_⟩=>by simp at h1;subst h1;exact hv fun i hi hi'=>h3 i hi')
theorem k4h {l:La} {r:Ru} (hr:kru r) (ha:r.args.length≤9223372036854775807):Ev (kcp l r) fun c=>c=0↔ValidR l r:=by
  unfold kcp ValidR
  refine kdy (out_iff.mono fun b hb=>?_)
  refine kdk (fun h=>kaf (kh1 (by decide) fun hh=>hb.1 h hh.1)) fun h=>?_
  have hs:0≤r.symbol∧r.symbol<(l.symbols.length:Int):=Classical.byContradiction fun hn=>by rw [hb.2 hn] at h;cases h
  obtain ⟨z,hz,hz2⟩:=kad8 r
  have hform:Ev (bif decide (r.kind<1) then some true else bif decide (3<r.kind) then some true else Option.bind (kcq r) fun v3=>some (!v3):Option Bool) fun b=>b=false↔(1≤r.kind∧r.kind≤3)∧z=true:=by
    refine kdk (fun h=>kaf ?_) fun h=>kdk (fun h2=>kaf ?_) fun h2=>?_
    · have:=q9 h;simp;omega
    · have:=q9 h2;simp;omega
    · have:=qak h;have:=qak h2
      rw [hz,qa]
      refine kaf ?_
      rw [Bool.not_eq_false']
      exact ⟨fun h=>⟨by omega,h⟩,fun h=>h.2⟩
  refine kdy (hform.mono fun f hf=>?_)
  refine kdk (fun h=>kaf (kh1 (by decide) fun hh=>?_)) fun h=>?_
  · have hzt:z=true:=by
      rw [hz2]
      rcases hh.2 with h | h | h
      · exact .inl ⟨h.1,h.2.1,h.2.2.1,h.2.2.2.1⟩
      · exact .inr (.inl ⟨h.1,h.2.1,h.2.2.1,h.2.2.2.1⟩)
      · exact .inr (.inr ⟨by omega,by omega,h.2.1,h.2.2.1⟩)
    have:f=false:=hf.2 ⟨by rcases hh.2 with h | h | h <;> omega,hzt⟩
    rw [this] at h;cases h
  obtain ⟨hk,hzt⟩:=hf.1 h
  have hzt:=hz2.1 hzt
  obtain ⟨x,hx,hx2⟩:=k3p hs.1 hs.2
  rw [hx,qa]
  refine kdk (fun h1=>?_) fun h1=>kdk (fun h2=>?_) fun h2=>?_
  · have h1:=eq_of_beq h1
    obtain ⟨_,g1,g2,g3⟩:r.kind=1∧r.const=kda∧r.op=⟨#[]⟩∧r.args=[]:=by
      rcases hzt with h | h | h
      · exact h
      · have:=h.1;omega
      · exact absurd h1 h.1
    refine kdy (out_iff.mono fun b hb=>?_)
    refine kdk (fun h=>kaf (kh1 (by decide) fun hh=>?_)) fun h=>?_
    · rcases hh.2 with q | q | q
      · exact hb.1 h q.2.2.2.2.1
      · have:=q.1;omega
      · have:=q.1;omega
    have hin:0≤r.input∧r.input<(l.inputs.length:Int):=Classical.byContradiction fun hn=>by rw [hb.2 hn] at h;cases h
    have hid:idx l.inputs r.input=some (l.inputs.getD r.input.toNat 0):=by
      unfold idx
      rw [if_pos hin.1,List.getD_eq_getElem?_getD,List.getElem?_eq_getElem (by omega)]
      rfl
    rw [hid,qa]
    refine kdk (fun h=>kaf (kh1 (by decide) fun hh=>?_)) fun h=>kaf ⟨fun _=>⟨hs, .inl ⟨h1,g1,g2,g3,hin,?_⟩⟩,fun _=>rfl⟩
    · rcases hh.2 with q | q | q
      · rw [hx2,q.2.2.2.2.2] at h;simp at h
      · have:=q.1;omega
      · have:=q.1;omega
    · rw [bne_eq_false_iff_eq,hx2] at h;exact h
  · have h1:r.kind≠1:=by simpa using h1
    have h2:=eq_of_beq h2
    obtain ⟨_,g1,g2,g3⟩:r.kind=2∧r.input=0∧r.op=⟨#[]⟩∧r.args=[]:=by
      rcases hzt with h | h | h
      · exact absurd h.1 h1
      · exact h
      · exact absurd h2 h.2.1
    obtain ⟨c,c1,c2,_⟩:=kwn hr.2
    rw [c2,qa]
    refine kdk (fun h=>kaf (kh1 (by simpa using h) fun hh=>?_)) fun h=>?_
    · rcases hh.2 with q | q | q
      · exact h1 q.1
      · have:=q.2.2.2.2.1
        rw [c1] at this
        rw [qp this] at h;simp at h
      · have:=q.1;omega
    rw [bne_eq_false_iff_eq] at h
    subst h
    refine kdk (fun h=>kaf (kh1 (by decide) fun hh=>?_)) fun h=>kaf ⟨fun _=>⟨hs, .inr (.inl ⟨h2,g1,g2,g3,c1,?_⟩)⟩,fun _=>rfl⟩
    · rcases hh.2 with q | q | q
      · exact h1 q.1
      · rw [hx2,q.2.2.2.2.2] at h;simp at h
      · have:=q.1;omega
    · rw [bne_eq_false_iff_eq,hx2] at h;exact h
  · have h1:r.kind≠1:=by simpa using h1
    have h2:r.kind≠2:=by simpa using h2
    obtain ⟨_,_,g1,g2⟩:r.kind≠1∧r.kind≠2∧r.input=0∧r.const=kda:=by
      rcases hzt with h | h | h
      · exact absurd h.1 h1
      · exact absurd h.1 h2
      · exact h
    refine kdy ((kafv ha hs).mono fun c hc=>kaf (hc.trans ⟨fun h=>⟨hs, .inr (.inr ⟨by omega,g1,g2,h⟩)⟩,fun h=>?_⟩))
    rcases h.2 with q | q | q
    · exact absurd q.1 h1
    · exact absurd q.1 h2
    · exact q.2.2.2
def kw3 (t:Int):Prop:=1≤t∧t≤8
theorem k1v (t:Int):Ev (kfu t) fun b=>b=true↔kw3 t:=by
  rw [kvi]
  exact kaf (by unfold tyB kw3;simp)
structure ValidL (l:La):Prop where
  name:kpa l.name
  inputs:l.inputs.length≤4
  typs:∀ i (h:i<l.inputs.length),kw3 l.inputs[i]
  sym1:1≤l.symbols.length
  sym16:l.symbols.length≤16
  names:∀ i (h:i<l.symbols.length),kpa l.symbols[i].name
  once:∀ i j (h:i<l.symbols.length) (h2:j<l.symbols.length),i<j→l.symbols[i].name≠l.symbols[j].name
  types:∀ i (h:i<l.symbols.length),kw3 l.symbols[i].type
  rules:l.rules.length≤96
  valid:∀ i (h:i<l.rules.length),ValidR l l.rules[i]
  diff:∀ i j (h:i<l.rules.length) (h2:j<l.rules.length),i<j→l.rules[i]≠l.rules[j]
theorem kaix {l:La} {i:Nat} (hi:i<l.symbols.length) (hn:l.symbols.length≤9223372036854775807):Ev (kaa (kcb l (i:Int)) fuel 0) fun (r:Unit ⊕ Int)=>(r = .inl ()∧∀ k,k<i→∀ h:k<l.symbols.length,l.symbols[k].name≠l.symbols[i].name)∨(r = .inr 6∧¬ ∀ k,k<i→∀ h:k<l.symbols.length,l.symbols[k].name≠l.symbols[i].name):=by
  refine krd (β:=Unit ⊕ Int) (b0 := .inl ()) i (by omega) (fun k=>∀ h:k<l.symbols.length,l.symbols[k].name≠l.symbols[i].name) (fun (b:Unit ⊕ Int)=>b = .inr 6) (fun k hk _=>?_) (by simp only [kcb,kez,qb])
  have hk':k<l.symbols.length:=by omega
  unfold kcb
  simp only [kbb hk,qd,kak,List.getElem?_eq_getElem hi,List.getElem?_eq_getElem hk',qa]
  refine kdk (fun h=>kaf (.inr ⟨_,rfl,rfl,fun hh=>hh hk' (beqB_iff.1 h)⟩)) fun h=>kaf (.inl ⟨rfl,fun _ e=>?_⟩)
  rw [beqB_iff.2 e] at h;cases h
theorem kajd {l:La} {i:Nat} (hi:i<l.rules.length) (hn:l.rules.length≤9223372036854775807) (hm:∀ k,k≤i→∀ h:k<l.rules.length,modR l.rules[k]):Ev (kaa (kbw l (i:Int)) fuel 0) fun (r:Unit ⊕ Int)=>(r = .inl ()∧∀ k,k<i→∀ h:k<l.rules.length,l.rules[k]≠l.rules[i])∨(r = .inr 6∧¬ ∀ k,k<i→∀ h:k<l.rules.length,l.rules[k]≠l.rules[i]):=by
  refine krd (β:=Unit ⊕ Int) (b0 := .inl ()) i (by omega) (fun k=>∀ h:k<l.rules.length,l.rules[k]≠l.rules[i]) (fun (b:Unit ⊕ Int)=>b = .inr 6) (fun k hk _=>?_) (by simp only [kbw,kez,qb])
  have hk':k<l.rules.length:=by omega
  obtain ⟨c,hc,hc2⟩:=(kaa6 (hm k (by omega) hk') (hm i (qw _) hi)).2
  unfold kbw
  simp only [kbb hk,qd,kak,List.getElem?_eq_getElem hi,List.getElem?_eq_getElem hk',qa,hc]
  refine kdk (fun h=>kaf (.inr ⟨_,rfl,rfl,fun hh=>hh hk' (hc2.1 h)⟩)) fun h=>kaf (.inl ⟨rfl,fun _ e=>?_⟩)
  rw [hc2.2 e] at h;cases h
theorem ValidR.modR {l:La} {r:Ru} (hr:kru r) (h:ValidR l r):modR r:=by
  obtain ⟨c,hc,hc2⟩:=k4h (l:=l) hr (by
    rcases h.2 with q | q | q
    · rw [q.2.2.2.1];simp
    · rw [q.2.2.2.1];simp
    · obtain ⟨o,h1,h2,_⟩:=q.2.2.2
      have:=ktw h1 rfl
      simp only at this
      omega)
  rw [hc2.2 h] at hc
  exact (k1w hr hc).mod
theorem kabf {l:La} (hw:khu l) (h1:l.name.size≤9223372036854775807) (h2:l.symbols.length≤9223372036854775807) (h3:∀ x∈l.symbols,x.name.size≤9223372036854775807) (h4:l.rules.length≤9223372036854775807) (h5:∀ r∈l.rules,r.args.length≤9223372036854775807):Ev (kb5 l) fun c=>c=0↔ValidL l:=by
  unfold kb5
  refine kdy ((k3t h1).mono fun b hb=>?_)
  refine kdk (fun h=>kaf (kh1 (by decide) fun hh=>?_)) fun h=>?_
  · rw [hb.2 hh.name] at h;cases h
  have g1:kpa l.name:=hb.1 (by simpa using h)
  refine kdk (fun h=>kaf (kh1 (by decide) fun hh=>?_)) fun h=>?_
  · have:=q9 h;have:=hh.inputs;omega
  have g2:=qak h
  refine kdy ((krd (b0 := .inl ()) l.inputs.length (by omega) (fun i=>∀ h:i<l.inputs.length,kw3 l.inputs[i]) (fun b=>∃ e:Int,b = .inr e∧e≠0) (fun i hi _=>?_) (by simp only [kcx,kez,qb])).mono fun v hv=>?_)
  · obtain ⟨t,ht,ht2⟩:=k1v l.inputs[i]
    unfold kcx
    simp only [kbb hi,qd,kak,List.getElem?_eq_getElem hi,qa,ht]
    refine kdk (fun h=>kaf (.inr ⟨_,rfl,⟨3,rfl,by decide⟩,fun hh=>?_⟩)) fun h=>kaf (.inl ⟨rfl,fun _=>ht2.1 (by simpa using h)⟩)
    rw [ht2.2 (hh hi)] at h;cases h
  rcases hv with ⟨rfl,hv⟩ | ⟨⟨e,rfl,he⟩,hv⟩
  rotate_left
  · exact kaf (kh1 he fun hh=>hv fun i hi hi'=>hh.typs i hi')
  simp only [qf]
  have hcnt:Ev (bif decide ((l.symbols.length:Int)<1) then some true else some (decide (16<(l.symbols.length:Int))):Option Bool) fun b=>b=false↔1≤l.symbols.length∧l.symbols.length≤16:=by
    refine kdk (fun h=>kaf ?_) fun h=>kaf ?_
    · have:=q9 h;simp;omega
    · have:=qak h;rw [decide_eq_false_iff_not];omega
  refine kdy (hcnt.mono fun b hb=>?_)
  refine kdk (fun h=>kaf (kh1 (by decide) fun hh=>?_)) fun h=>?_
  · rw [hb.2 ⟨hh.sym1,hh.sym16⟩] at h;cases h
  have g3:=hb.1 h
  refine kdy ((krd (b0 := .inl ()) l.symbols.length h2 (fun i=>∀ h:i<l.symbols.length,kpa l.symbols[i].name∧(∀ k,k<i→∀ h:k<l.symbols.length,l.symbols[k].name≠l.symbols[i].name)∧kw3 l.symbols[i].type) (fun b=>∃ e:Int,b = .inr e∧e≠0) (fun i hi _=>?_) (by simp only [kcv,kez,qb])).mono fun v hv2=>?_)
  · unfold kcv
    simp only [kbb hi,qd,kak,List.getElem?_eq_getElem hi,qa]
    refine kdy ((k3t (h3 _ (qn hi))).mono fun b hb=>?_)
    refine kdk (fun h=>kaf (.inr ⟨_,rfl,⟨5,rfl,by decide⟩,fun hh=>?_⟩)) fun h=>?_
    · rw [hb.2 (hh hi).1] at h;cases h
    refine kdy ((kaix hi h2).mono fun r hr=>?_)
    rcases hr with ⟨rfl,hr⟩ | ⟨rfl,hr⟩
    rotate_left
    · exact kaf (.inr ⟨_,rfl,⟨6,rfl,by decide⟩,fun hh=>hr (hh hi).2.1⟩)
    simp only [qf]
    refine kdy ((k1v _).mono fun c hc=>?_)
    refine kdk (fun h=>kaf (.inr ⟨_,rfl,⟨3,rfl,by decide⟩,fun hh=>?_⟩)) fun h'=>kaf (.inl ⟨rfl,fun _=>⟨hb.1 (by simpa using h),hr,hc.1 (by simpa using h')⟩⟩)
    rw [hc.2 (hh hi).2.2] at h;cases h
  rcases hv2 with ⟨rfl,hv2⟩ | ⟨⟨e,rfl,he⟩,hv2⟩
  rotate_left
  · exact kaf (kh1 he fun hh=>hv2 fun i hi hi'=>⟨hh.names i hi',fun k hk hk'=>hh.once k i hk' hi' hk,hh.types i hi'⟩)
  simp only [qf]
  refine kdk (fun h=>kaf (kh1 (by decide) fun hh=>?_)) fun h=>?_
  · have:=q9 h;have:=hh.rules;omega
  have g4:=qak h
  refine kdy ((krd (b0 := .inl ()) l.rules.length h4 (fun i=>∀ h:i<l.rules.length,ValidR l l.rules[i]∧∀ k,k<i→∀ h:k<l.rules.length,l.rules[k]≠l.rules[i]) (fun b=>∃ e:Int,b = .inr e∧e≠0) (fun i hi hall=>?_) (by simp only [ka2,kez,qb])).mono fun v hv3=>?_)
  · have hmem:=qn hi
    unfold ka2
    simp only [kbb hi,qd,kak,List.getElem?_eq_getElem hi,qa]
    refine kdy ((k4h (l:=l) (hw.wide _ hmem) (h5 _ hmem)).mono fun c hc=>?_)
    refine kdk (fun h=>kaf (.inr ⟨_,rfl,⟨c,rfl,by simpa using h⟩,fun hh=>?_⟩)) fun h=>?_
    · rw [hc.2 (hh hi).1] at h;simp at h
    have hvr:ValidR l l.rules[i]:=hc.1 (by simpa using h)
    refine kdy ((kajd hi h4 fun k hk hk'=>?_).mono fun r hr=>?_)
    · have hmk:=hw.wide _ (qn hk')
      by_cases hki:k=i
      · subst hki;exact hvr.modR hmk
      · exact (hall k (by omega) hk').1.modR hmk
    rcases hr with ⟨rfl,hr⟩ | ⟨rfl,hr⟩
    · exact kaf (.inl ⟨rfl,fun _=>⟨hvr,hr⟩⟩)
    · exact kaf (.inr ⟨_,rfl,⟨6,rfl,by decide⟩,fun hh=>hr (hh hi).2⟩)
  rcases hv3 with ⟨rfl,hv3⟩ | ⟨⟨e,rfl,he⟩,hv3⟩
  · refine kaf ⟨fun _=>⟨g1,by omega,fun i hi=>hv i hi hi,g3.1,g3.2,fun i hi=>(hv2 i hi hi).1,fun i j hi hj hij=>(hv2 j hj hj).2.1 i hij hi,fun i hi=>(hv2 i hi hi).2.2,by omega,fun i hi=>(hv3 i hi hi).1,fun i j hi hj hij=>(hv3 j hj hj).2 i hij hi⟩,fun _=>rfl⟩
  · exact kaf (kh1 he fun hh=>hv3 fun i hi hi'=>⟨hh.valid i hi',fun k hk hk'=>hh.diff k i hk' hi' hk⟩)
def hd:List UInt8→Int
  | []=>0
  | c::_=>(c.toNat:Int)
def decN (n:Nat):List UInt8:=if h:n<10 then [UInt8.ofNat (48+n)] else decN (n / 10)++[UInt8.ofNat (48+n % 10)]
def kb7 (n:Int):List UInt8:=if n<0 then 45::decN n.natAbs else decN n.natAbs
def hexD (n:Nat):UInt8:=if n<10 then UInt8.ofNat (48+n) else UInt8.ofNat (87+n)
def klb (c:UInt8):Bool:=decide (32≤c.toNat) && decide (c.toNat≤126)
def escB (c:UInt8):List UInt8:=if c=34∨c=92 then [92,c] else if klb c=true then [c] else [92,120,hexD (c.toNat / 16),hexD (c.toNat % 16)]
def kex (l:List UInt8):List UInt8:=34::(l.flatMap escB++[34])
def kba:List (List UInt8)→List UInt8
  | []=>[]
  | [x]=>x
  | x::y::l=>x++(44::32::kba (y::l))
mutual
def kac:Va→List UInt8
  | .mk t n s l=>if t=1 then (if n=1 then [116,114,117,101] else [102,97,108,115,101]) else if t=2 then kb7 n else if t=4 then [48,120,hexD (n.toNat / 16),hexD (n.toNat % 16)]
    else if t=3 then kex s.data.toList else if t=8 then 114::kex s.data.toList
    else if t=5 then 91::(kba (kju l)++[93]) else if t=6 then 123::(kba (kju l)++[125]) else 60::(kba (kju l)++[62])
def kju:List Va→List (List UInt8)
  | []=>[]
  | v::l=>kac v::kju l
end
def dig (c:UInt8):Prop:=48≤(c.toNat:Int)∧(c.toNat:Int)≤57
def valD (n:Int) (ds:List UInt8):Int:=ds.foldl (fun a c=>a*10+((c.toNat:Int) - 48)) n
theorem kj1 {n:Nat} (h:n<256):(UInt8.ofNat n).toNat=n:=by simp [UInt8.toNat_ofNat,Nat.mod_eq_of_lt h]
theorem kst (n:Nat):∃ d ds,decN n=d::ds∧(∀ c∈d::ds,dig c)∧valD ((d.toNat:Int) - 48) ds=n∧(0<n→48<d.toNat)∧∀ k,0<k→n<10 ^ k→ds.length<k:=by
  induction n using Nat.strongRecOn with
  | ind n ih=>
    rw [decN]
    by_cases h:n<10
    · rw [dif_pos h]
      have e:(UInt8.ofNat (48+n)).toNat=48+n:=kj1 (by omega)
      refine ⟨_,[],rfl,fun c hc=>?_,?_,fun h0=>by rw [e];omega,fun k hk _=>hk⟩
      · rcases q8.1 hc with rfl | hc
        · unfold dig;rw [e];omega
        · cases hc
      · show ((UInt8.ofNat (48+n)).toNat:Int) - 48=n
        rw [e];omega
    · rw [dif_neg h]
      obtain ⟨d,ds,h1,h2,h3,h4,h5⟩:=ih (n / 10) (by omega)
      have e:(UInt8.ofNat (48+n % 10)).toNat=48+n % 10:=kj1 (by omega)
      refine ⟨d,ds++[UInt8.ofNat (48+n % 10)],by rw [h1];rfl,fun c hc=>?_,?_,fun h0=>h4 (by omega),fun k hk hlt=>?_⟩
      · rw [← qag] at hc
        rcases qam.1 hc with hc | hc
        · exact h2 c hc
        · rcases q8.1 hc with rfl | hc
          · unfold dig;rw [e];omega
          · cases hc
      · unfold valD at h3 ⊢
        rw [List.foldl_append,h3]
        show (((n / 10:Nat):Int))*10+(((UInt8.ofNat (48+n % 10)).toNat:Int) - 48)=n
        rw [e];omega
      · obtain ⟨j,rfl⟩:∃ j,k=j+1:=⟨k - 1,by omega⟩
        have hj:0<j:=by
          rcases Nat.eq_zero_or_pos j with rfl | hj
          · simp at hlt;omega
          · exact hj
        have:=h5 j hj (by rw [Nat.pow_succ] at hlt;omega)
        rw [ql,qau];omega
theorem kup (s:BA):toBA (s.data.toList.map fun c=>(c.toNat:Int))=s:=by
  have key:∀ (l:List UInt8) (r:BA),(l.map fun c=>(c.toNat:Int)).foldl (fun r n=>r.push (UInt8.ofNat n.toNat)) r=⟨r.data++l.toArray⟩:=by
    intro l
    induction l with
    | nil=>intro r;simp
    | cons c l ih=>
      intro r
      rw [qah,List.foldl_cons,ih]
      simp [ByteArray.push]
  unfold toBA
  rw [key]
  cases s
  simp [ByteArray.empty,ByteArray.emptyWithCapacity]
  try rfl
def kff {α:Type} (sh:α→List UInt8) (l:List α):List UInt8:=l.flatMap fun v=>44::32::sh v
theorem kky {α:Type} (sh:α→List UInt8):∀ (l:List α) (v:α),kba ((v::l).map sh)=sh v++kff sh l
  | [],v=>by simp [kba,kff]
  | w::l,v=>by
    have:=kky sh l w
    rw [qah] at this
    rw [qah,qah,kba,this]
    simp [kff]
def kzh (least most:Nat) (s:BA):Prop:=least≤s.size∧s.size≤most∧∀ c∈s.data.toList,klb c=true
def kns (v:Va):Prop:=∃ n,v=Va.mk 2 n ⟨#[]⟩ [] ∧ -1000000≤n∧n≤1000000
def ko0 (v:Va):Prop:=∃ s,v=Va.mk 3 0 s []∧kzh 0 64 s
def kty (lo hi:Nat) (v:Va):Prop:=∃ l,v=Va.mk 6 0 ⟨#[]⟩ l∧lo≤l.length∧l.length≤hi∧∀ x∈l,ko0 x
def kgh (v:Va):Prop:=
  (v=Va.mk 1 0 ⟨#[]⟩ []∨v=Va.mk 1 1 ⟨#[]⟩ [])∨kns v∨(∃ n,v=Va.mk 4 n ⟨#[]⟩ []∧0≤n∧n≤255)∨ko0 v∨(∃ s,v=Va.mk 8 0 s []∧kzh 1 40 s) ∨
  (∃ l,v=Va.mk 5 0 ⟨#[]⟩ l∧l.length≤16∧∀ x∈l,kns x)∨kty 0 16 v ∨
  (∃ l,v=Va.mk 7 0 ⟨#[]⟩ l∧l.length≤8∧∃ m,1≤m∧m≤8∧∀ x∈l,kty m m x)
theorem kjy:∀ l:List Va,kju l=l.map kac
  | []=>rfl
  | v::l=>by rw [kju,kjy l];rfl
def klt (c:Int):Bool:=decide (32≤c) && decide (c≤126)
def atI (s:BA) (i:Nat):Int:=hd (s.data.toList.drop i)
theorem kix {s:BA} {i:Nat} (h:i<s.size):byt s (i:Int)=some (atI s i)∧s.data.toList.drop i=(s.data.toList[i]'(by rw [← ka4];exact h))::s.data.toList.drop (i+1)∧atI s i=((s.data.toList[i]'(by rw [← ka4];exact h)).toNat:Int):=by
  have h':i<s.data.toList.length:=by rw [← ka4];exact h
  have d:=qv h'
  refine ⟨?_,d,?_⟩
  · rw [km1,List.getElem?_eq_getElem h',atI,d];rfl
  · rw [atI,d];rfl
def wl (w:BA):List Int:=w.data.toList.map fun c=>(c.toNat:Int)
theorem k5h {a b:BA} (h:a.data.toList=b.data.toList):a=b:=by
  cases a;cases b;congr 1;exact Array.toList_inj.1 h
theorem kos (c:Int):kjo c=some (klt c):=by
  unfold kjo klt
  cases decide (32≤c) <;> cases decide (c≤126) <;> rfl
theorem kt5 (s:BA) (a b:Nat):(s.extract a b).data.toList=(s.data.toList.take b).drop a:=by
  simp [ByteArray.data_extract,Array.toList_extract,List.drop_take]
def iB (l:List UInt8):List Int:=l.map fun c=>(c.toNat:Int)
def mkB (l:List UInt8):BA:=⟨l.toArray⟩
theorem kct (l:List UInt8):(mkB l).data.toList=l:=by simp [mkB]
theorem kcr (l:List UInt8):(mkB l).size=l.length:=by rw [ka4,kct]
theorem k8t (a b:List UInt8):mkB a++mkB b=mkB (a++b):=by
  apply k5h
  rw [kct]
  simp [ByteArray.data_append,mkB]
theorem k0l (l:List UInt8):toBA (iB l)=mkB l:=by
  have:=kup (mkB l)
  rwa [kct] at this
theorem k15 (a b:List UInt8):iB a++iB b=iB (a++b):=by simp [iB]
theorem kzy (l:List UInt8):(iB l).length=l.length:=by simp [iB]
theorem k39 (l:List UInt8):ofBA (mkB l)=iB l:=by unfold ofBA iB;rw [kct]
theorem kaju (c:UInt8):([(c.toNat:Int)]:List Int)=iB [c]:=rfl
theorem kp7 {acc:List UInt8} {c:UInt8} {n:Int} (hn:n=(c.toNat:Int)) (h:acc.length≤4000000000):kao (iB acc) n=some (iB (acc++[c])):=by
  subst hn
  have:=kk9 (b:=1) (xs:=iB acc) (ys:=[(c.toNat:Int)]) (by rw [kzy];simp;omega)
  simp only [kao,kb3,qa,this]
  rw [kaju,k15]
theorem kl5 {acc l:List UInt8} {s:BA} (hs:s=mkB l) (h:acc.length≤4000000000) (hl:l.length≤4000000000):kal (iB acc) s=some (iB (acc++l)):=by
  subst hs
  have:appS (iB acc) (mkB l)=some (iB (acc++l)):=by
    unfold appS
    rw [kzy,kcr,if_pos (by omega),k39,k15]
  simp only [kal,kb3,qa,this]
theorem ks0 (c:UInt8):byt (⟨#[48,49,50,51,52,53,54,55,56,57,97,98,99,100,101,102]⟩:BA) (Int.fdiv (c.toNat:Int) (2 ^ (4:Nat)))=some ((hexD (c.toNat / 16)).toNat:Int) ∧
    byt (⟨#[48,49,50,51,52,53,54,55,56,57,97,98,99,100,101,102]⟩:BA) (iand .u8 (c.toNat:Int) 15)=some ((hexD (c.toNat % 16)).toNat:Int) ∧
    keh (w64 (Int.tdiv (c.toNat:Int) 16))=some (mkB [hexD (c.toNat / 16)])∧keh (Int.tmod (c.toNat:Int) 16)=some (mkB [hexD (c.toNat % 16)]):=by
  have key:∀ n:Fin 256,byt (⟨#[48,49,50,51,52,53,54,55,56,57,97,98,99,100,101,102]⟩:BA) (Int.fdiv ((n.val:Nat):Int) (2 ^ (4:Nat)))=some ((hexD (n.val / 16)).toNat:Int) ∧
    byt (⟨#[48,49,50,51,52,53,54,55,56,57,97,98,99,100,101,102]⟩:BA) (iand .u8 ((n.val:Nat):Int) 15)=some ((hexD (n.val % 16)).toNat:Int):=by decide
  have key2:∀ n:Fin 256,keh (w64 (Int.tdiv ((n.val:Nat):Int) 16))=some (mkB [hexD (n.val / 16)])∧keh (Int.tmod ((n.val:Nat):Int) 16)=some (mkB [hexD (n.val % 16)]):=by decide
  have hc:=c.toNat_lt
  exact ⟨(key ⟨c.toNat,hc⟩).1,(key ⟨c.toNat,hc⟩).2,(key2 ⟨c.toNat,hc⟩).1,(key2 ⟨c.toNat,hc⟩).2⟩
theorem k6s {acc:List UInt8} {c:UInt8} {n:Int} (hn:n=(c.toNat:Int)) (h:acc.length≤3000000000):kfk (iB acc) n=some (iB (acc++[hexD (c.toNat / 16),hexD (c.toNat % 16)])):=by
  subst hn
  have h1:=kp7 (acc:=acc) (c:=hexD (c.toNat / 16)) rfl (by omega)
  have h2:=kp7 (acc:=acc++[hexD (c.toNat / 16)]) (c:=hexD (c.toNat % 16)) rfl (by simp;omega)
  rw [qaa] at h2
  simp only [kfk,(ks0 c).1,(ks0 c).2.1,qa,h1,h2]
  rfl
def hex4 (c:UInt8):List UInt8:=[92,120,hexD (c.toNat / 16),hexD (c.toNat % 16)]
theorem kad1 (v:List UInt8) (hv:v.length≤1000000):∀ (k m:Nat) (acc:List UInt8) (n:Nat),m+k=v.length→k<n→acc.length+4*k≤2000000000 →
    kaa (kh5 (iB v)) n ((m:Int),iB acc)=some (iB (acc++(v.drop m).flatMap hex4)):=by
  intro k
  induction k with
  | zero=>
    intro m acc n hm hn hl
    obtain ⟨n,rfl⟩:∃ j,n=j+1:=⟨n - 1,by omega⟩
    rw [qaf (by omega)]
    refine kdi ?_
    have:decide ((m:Int)<((iB v).length:Int))=false:=qc (by rw [kzy];omega)
    simp only [kh5,this,qb]
    simp
  | succ k ih=>
    intro m acc n hm hn hl
    obtain ⟨n,rfl⟩:∃ j,n=j+1:=⟨n - 1,by omega⟩
    have hml:m<v.length:=by omega
    rw [qv hml,qal,← qaa,← ih (m+1) (acc++hex4 v[m]) n (by omega) (by omega) (by simp [hex4];omega)]
    refine kih ?_
    have d1:decide ((m:Int)<((iB v).length:Int))=true:=qe (by rw [kzy];omega)
    have e1:idx (iB v) (m:Int)=some (v[m].toNat:Int):=by rw [kak];simp [iB,hml]
    have h1:=kl5 (acc:=acc) (l:=[92,120]) (s:=⟨#[92,120]⟩) rfl (by omega) (by decide)
    have h2:=k6s (acc:=acc++[92,120]) (c:=v[m]) rfl (by simp;omega)
    rw [qaa] at h2
    simp only [kh5,d1,qd,e1,qa,h1,h2,w64s m (by omega)]
    rfl
theorem kac1 {s:BA} {j:Nat} (h:j<s.size):(s.get! j).toNat=(s.data.toList[j]'(by rw [← ka4];exact h)).toNat:=by
  obtain ⟨a⟩:=s
  have h':j<a.size:=h
  show (a[j]!).toNat=_
  rw [getElem!_pos a j h']
  rfl
theorem k99 (n b0 b1 b2 b3:Nat) (hn:1≤n) (h0:128≤b0):128≤(Lib.decodeN n b0 b1 b2 b3).1∧1≤(Lib.decodeN n b0 b1 b2 b3).2∧(Lib.decodeN n b0 b1 b2 b3).2≤n∧(Lib.decodeN n b0 b1 b2 b3).2≤4∧(2≤(Lib.decodeN n b0 b1 b2 b3).2→128≤b1)∧(3≤(Lib.decodeN n b0 b1 b2 b3).2→128≤b2)∧(4≤(Lib.decodeN n b0 b1 b2 b3).2→128≤b3):=by
  unfold Lib.decodeN
  repeat' split
  all_goals refine ⟨?_,?_,?_,?_,?_,?_,?_⟩
  all_goals (simp only;omega)
theorem kaf8:∀ n:Fin 256,idx gt2 ((n.val:Nat):Int)=some (Lib.firstT n.val:Int)∧w64 (iand .u8 (Lib.firstT n.val:Int) 7)=((Lib.firstT n.val % 8:Nat):Int) ∧
    (Lib.firstT n.val<240→(idx gt3 (Int.fdiv (Lib.firstT n.val:Int) (2 ^ (4:Nat)))).map (fun r=>(r.f_lo,r.f_hi))=some ((Lib.accLo (Lib.firstT n.val / 16):Int),(Lib.accHi (Lib.firstT n.val / 16):Int)))∧(Lib.firstT n.val<240∨Lib.firstT n.val=240∨Lib.firstT n.val=241)∧(Lib.firstT n.val<240→2≤Lib.firstT n.val % 8∧Lib.firstT n.val % 8≤4):=by decide
theorem kajv (n b0 b1 b2 b3 sz lo hi:Nat):(Lib.slowN n b0 b1 b2 b3 sz lo hi).2=if n<sz then 1 else if b1<lo∨hi<b1 then 1 else if sz≤2 then 2 else if b2<128∨191<b2 then 1 else if sz≤3 then 3 else if b3<128∨191<b3 then 1 else 4:=by
  unfold Lib.slowN
  repeat' split
  all_goals first | rfl | omega
theorem kah6 {s:BA} (hs:s.size≤1000000) {i:Nat} (hi:i<s.size):∃ t r,cutS s (i:Int) (s.size:Int)=some t∧kbt t=some (r,((Utf8.decode s i).2:Int)):=by
  have hd:(s.extract i s.size).data.toList=s.data.toList.drop i:=by
    rw [kt5,List.take_of_length_le (by rw [← ka4];exact qw _)]
  generalize ht:s.extract i s.size=t at hd
  have hsz:t.size=s.size - i:=by rw [ka4,hd,qaq,← ka4]
  have hcut:cutS s (i:Int) (s.size:Int)=some t:=by unfold cutS;rw [if_pos ⟨by omega,by omega,by omega⟩,← ht];rfl
  have hb:∀ k:Nat,i+k<s.size→byt t (k:Int)=some ((s.get! (i+k)).toNat:Int):=fun k hk=>by
    rw [km1,hd,List.getElem?_drop,List.getElem?_eq_getElem (by rw [← ka4];exact hk),kac1 hk]
    rfl
  have hlt:∀ k:Nat,(s.get! k).toNat<256:=fun k=>UInt8.toNat_lt _
  rw [Lib.decode_at]
  have b0:=hb 0 (by omega)
  have hb1:=hb 1
  have hb2:=hb 2
  have hb3:=hb 3
  rw [Nat.add_zero] at b0
  have h0:=hlt i
  have h1:=hlt (i+1)
  have h2:=hlt (i+2)
  have h3:=hlt (i+3)
  generalize (s.get! i).toNat=c0 at *
  generalize (s.get! (i+1)).toNat=c1 at *
  generalize (s.get! (i+2)).toNat=c2 at *
  generalize (s.get! (i+3)).toNat=c3 at *
  refine ⟨t,?_⟩
  have hne:(!(t.toList == (⟨#[]⟩:BA).toList))=true:=by
    rw [Bool.not_eq_true',qy]
    intro h
    have:=congrArg ByteArray.size (kjp h)
    rw [hsz,show (⟨#[]⟩:BA).size=0 from rfl] at this
    omega
  have b0':byt t 0=some (c0:Int):=b0
  by_cases ha:c0<128
  · have d1:decide ((c0:Int)<128)=true:=qe (by omega)
    have:Lib.decodeN (s.size - i) c0 c1 c2 c3=(c0,1):=by unfold Lib.decodeN;rw [if_pos ha]
    rw [this]
    exact ⟨_,hcut,by simp only [kbt,hne,qd,b0',qa,d1];rfl⟩
  · have d1:decide ((c0:Int)<128)=false:=qc (by omega)
    obtain ⟨f1,f2,f3,f4,f5⟩:=kaf8 ⟨c0,h0⟩
    simp only at f1 f2 f3 f4 f5
    have d2:decide ((t.size:Int)<1)=false:=qc (by omega)
    have goal:∀ r,(∃ a,kar t=some (a,(r:Int)))→∃ a,cutS s (i:Int) (s.size:Int)=some t∧kbt t=some (a,(r:Int)):=fun r ⟨a,h⟩=>
      ⟨a,hcut,by simp only [kbt,hne,qd,b0',qa,d1,qb,h]⟩
    refine goal _ ?_
    rcases f4 with f4 | f4
    · have e:=Lib.slow_eq (s.size - i) c0 c1 c2 c3 (by omega) h1 h2 h3 f4
      rw [← e,kajv]
      have d3:decide ((240:Int)≤(Lib.firstT c0:Int))=false:=qc (by omega)
      obtain ⟨v4,g,g'⟩:=qj.1 (f3 f4)
      obtain ⟨glo,ghi⟩:=Prod.mk.inj g'
      obtain ⟨g1,g2⟩:=f5 f4
      generalize Lib.firstT c0 % 8=sz at *
      generalize Lib.accLo (Lib.firstT c0 / 16)=lo at *
      generalize Lib.accHi (Lib.firstT c0 / 16)=hi' at *
      by_cases k1:s.size - i<sz
      · rw [if_pos k1]
        have d4:decide ((t.size:Int)<(sz:Int))=true:=qe (by omega)
        exact ⟨65533,by simp only [kar,d2,qb,b0',qa,f1,d3,g,glo,ghi,f2,d4,qd];rfl⟩
      · rw [if_neg k1]
        have d4:decide ((t.size:Int)<(sz:Int))=false:=qc (by omega)
        have b1':byt t 1=some (c1:Int):=hb1 (by omega)
        have c1b:(bif (decide ((c1:Int)<(lo:Int))) then (some (true)) else (some ((decide ((hi':Int)<(c1:Int))))):Option Bool)=some (decide (c1<lo∨hi'<c1)):=by
          by_cases q:c1<lo
          · rw [qe (show (c1:Int)<(lo:Int) by omega),qe (show c1<lo∨hi'<c1 from .inl q)];rfl
          · rw [qc (show ¬ (c1:Int)<(lo:Int) by omega),qb]
            congr 1
            by_cases q':hi'<c1
            · rw [qe (show (hi':Int)<(c1:Int) by omega),qe (show c1<lo∨hi'<c1 from .inr q')]
            · rw [qc (show ¬ (hi':Int)<(c1:Int) by omega),qc (by omega)]
        by_cases k2:c1<lo∨hi'<c1
        · rw [if_pos k2]
          exact ⟨65533,by simp only [kar,d2,qb,b0',qa,f1,d3,g,glo,ghi,f2,d4,b1',c1b,qe k2,qd];rfl⟩
        · rw [if_neg k2]
          by_cases k3:sz≤2
          · rw [if_pos k3]
            have d5:decide ((sz:Int)≤2)=true:=qe (by omega)
            exact ⟨_,by simp only [kar,d2,qb,b0',qa,f1,d3,g,glo,ghi,f2,d4,b1',c1b,qc k2,d5,qd];rfl⟩
          · rw [if_neg k3]
            have d5:decide ((sz:Int)≤2)=false:=qc (by omega)
            have b2':byt t 2=some (c2:Int):=hb2 (by omega)
            have c2b:∀ c:Nat,(bif (decide ((c:Int)<128)) then (some (true)) else (some ((decide (191<(c:Int))))):Option Bool)=some (decide (c<128∨191<c)):=fun c=>by
              by_cases q:c<128
              · rw [qe (show (c:Int)<128 by omega),qe (show c<128∨191<c from .inl q)];rfl
              · rw [qc (show ¬ (c:Int)<128 by omega),qb]
                congr 1
                by_cases q':191<c
                · rw [qe (show 191<(c:Int) by omega),qe (show c<128∨191<c from .inr q')]
                · rw [qc (show ¬ 191<(c:Int) by omega),qc (by omega)]
            by_cases k4:c2<128∨191<c2
            · rw [if_pos k4]
              exact ⟨65533,by simp only [kar,d2,qb,b0',qa,f1,d3,g,glo,ghi,f2,d4,b1',c1b,qc k2,d5,b2',c2b,qe k4,qd];rfl⟩
            · rw [if_neg k4]
              by_cases k5:sz≤3
              · rw [if_pos k5]
                have d6:decide ((sz:Int)≤3)=true:=qe (by omega)
                exact ⟨_,by simp only [kar,d2,qb,b0',qa,f1,d3,g,glo,ghi,f2,d4,b1',c1b,qc k2,d5,b2',c2b,qc k4,d6,qd];rfl⟩
              · rw [if_neg k5]
                have d6:decide ((sz:Int)≤3)=false:=qc (by omega)
                have b3':byt t 3=some (c3:Int):=hb3 (by omega)
                by_cases k6:c3<128∨191<c3
                · rw [if_pos k6]
                  exact ⟨65533,by simp only [kar,d2,qb,b0',qa,f1,d3,g,glo,ghi,f2,d4,b1',c1b,qc k2,d5,b2',c2b,qc k4,d6,b3',qe k6,qd];rfl⟩
                · rw [if_neg k6]
                  exact ⟨_,by simp only [kar,d2,qb,b0',qa,f1,d3,g,glo,ghi,f2,d4,b1',c1b,qc k2,d5,b2',c2b,qc k4,d6,b3',qc k6];rfl⟩
    · have:(Lib.decodeN (s.size - i) c0 c1 c2 c3).2=1:=by
        rcases f4 with f4 | f4
        · rw [Lib.ascii_eq _ _ _ _ _ f4]
        · rw [Lib.bad_eq _ _ _ _ _ h0 f4]
      rw [this]
      have d3:decide ((240:Int)≤(Lib.firstT c0:Int))=true:=qe (by omega)
      exact ⟨_,by simp only [kar,d2,qb,b0',qa,f1,d3,qd];rfl⟩
theorem kvk {s:BA} {i w:Nat} (h:i+w≤s.size):cutS s (i:Int) ((i+w:Nat):Int)=some (mkB ((s.data.toList.drop i).take w)):=by
  unfold cutS
  rw [if_pos ⟨by omega,by omega,by omega⟩]
  congr 1
  apply k5h
  rw [kct,show ((i:Int).toNat)=i from rfl,show (((i+w:Nat):Int).toNat)=i+w from rfl,kt5,List.drop_take]
  congr 1
  omega
theorem kakg {l:List UInt8} (h:l.length≤4000000000):s2b (mkB l)=some (iB l):=by
  unfold s2b
  rw [kcr,if_pos (by omega),k39]
theorem kakv {s:BA} {i:Nat} (hi:i<s.size) (c:UInt8) (hc:s.data.toList[i]?=some c):(c.toNat<128∧Utf8.decode s i=(c.toNat,1)) ∨
    (128≤c.toNat∧128≤(Utf8.decode s i).1∧1≤(Utf8.decode s i).2∧i+(Utf8.decode s i).2≤s.size∧∀ x∈(s.data.toList.drop i).take (Utf8.decode s i).2,128≤x.toNat):=by
  have hg:∀ k:Nat,i+k<s.size→∀ x,s.data.toList[i+k]?=some x→(s.get! (i+k)).toNat=x.toNat:=fun k hk x hx=>by
    rw [kac1 hk]
    rw [List.getElem?_eq_getElem (by rw [← ka4];exact hk)] at hx
    rw [qp hx]
  have h0:=hg 0 hi c hc
  rw [Nat.add_zero] at h0
  rw [Lib.decode_at,h0]
  by_cases h:c.toNat<128
  · exact .inl ⟨h,by unfold Lib.decodeN;rw [if_pos h]⟩
  · obtain ⟨k1,k2,k3,k4,k5,k6,k7⟩:=k99 (s.size - i) c.toNat (s.get! (i+1)).toNat (s.get! (i+2)).toNat (s.get! (i+3)).toNat (by omega) (by omega)
    refine .inr ⟨by omega,k1,k2,by omega,fun x hx=>?_⟩
    obtain ⟨k,hk⟩:=qa4.1 hx
    rw [List.getElem?_take] at hk
    split at hk
    · rename_i hkw
      rw [List.getElem?_drop] at hk
      have hks:i+k<s.size:=by omega
      have:=hg k hks x hk
      rcases (by omega:k=0∨k=1∨k=2∨k=3) with rfl | rfl | rfl | rfl
      · rw [Nat.add_zero,hc] at hk;cases hk;omega
      · rw [← this];exact k5 (by omega)
      · rw [← this];exact k6 (by omega)
      · rw [← this];exact k7 (by omega)
    · cases hk
theorem k0f {c:UInt8} (h1:c.toNat≠34) (h2:c.toNat≠92) (h3:¬ (32≤c.toNat∧c.toNat≤126)):escB c=hex4 c:=by
  unfold escB hex4
  rw [if_neg (by rintro (rfl | rfl) <;> simp_all),if_neg (by unfold klb;simpa using h3)]
theorem k2b {c:UInt8} (h1:c.toNat≠34) (h2:c.toNat≠92) (h3:32≤c.toNat∧c.toNat≤126):escB c=[c]:=by
  unfold escB
  rw [if_neg (by rintro (rfl | rfl) <;> simp_all),if_pos (by unfold klb;simpa using h3)]
theorem kagn {c:UInt8} (h:c.toNat=34∨c.toNat=92):escB c=[92,c]:=by
  unfold escB
  rw [if_pos]
  rcases h with h | h
  · exact .inl (UInt8.toNat.inj h)
  · exact .inr (UInt8.toNat.inj h)
theorem kaeh {l:List UInt8} (h:∀ x∈l,escB x=hex4 x):l.flatMap escB=l.flatMap hex4:=by
  induction l with
  | nil=>rfl
  | cons x l ih=>rw [qal,qal,h x (qo ..),ih fun y hy=>h y (qk _ hy)]
theorem k0k (c:UInt8):wu8 ((c.toNat:Nat):Int)=(c.toNat:Int):=by
  have:=c.toNat_lt
  simp [wu8,IntKind.wrap,IntKind.signed,IntKind.bits,IntKind.min,IntKind.max]
  omega
theorem k92 {s:BA} (hs:s.size≤100000):∀ (d i:Nat) (acc:List UInt8) (n:Nat),s.size - i=d→i≤s.size→d<n→acc.length+4*d≤1000000000 →
    kaa (kfs s) n (iB acc,i)=some (iB (acc++(s.data.toList.drop i).flatMap escB)):=by
  intro d
  induction d using Nat.strongRecOn with
  | ind d ih=>
    intro i acc n hd hi hn hl
    obtain ⟨n,rfl⟩:∃ m,n=m+1:=⟨n - 1,by omega⟩
    by_cases h:i<s.size
    · have hil:i<s.data.toList.length:=by rw [← ka4];exact h
      have hdr:=qv hil
      have hget:s.data.toList[i]?=some s.data.toList[i]:=List.getElem?_eq_getElem hil
      generalize s.data.toList[i]=c at hdr hget
      have d1:decide (i<ByteArray.size s)=true:=qe h
      have hdec:=kakv h c hget
      by_cases hq:c.toNat=34∨c.toNat=92
      · obtain ⟨g1,g2⟩:c.toNat<128∧Utf8.decode s i=(c.toNat,1):=by
          rcases hdec with hdec | hdec
          · exact hdec
          · omega
        rw [hdr,qal,kagn hq,← qaa,← ih (d - 1) (by omega) (i+1) (acc++[92,c]) n (by omega) (by omega) (by omega) (by simp;omega)]
        refine kih ?_
        have e1:(bif (((c.toNat:Nat):Int) == 34) then (some (true)) else (some (((c.toNat:Nat):Int) == 92)):Option Bool)=some true:=by rcases hq with hq | hq <;> rw [hq] <;> rfl
        have w1:=kp7 (acc:=acc) (c:=92) (n:=92) rfl (by omega)
        have w2:=kp7 (acc:=acc++[92]) (c:=c) rfl (by simp;omega)
        rw [qaa] at w2
        simp only [kfs,d1,qd,g2,e1,qa,w1,k0k,w2]
        rfl
      · have e1:∀ r:Nat,r≠34→r≠92→(bif (((r:Nat):Int) == 34) then (some (true)) else (some (((r:Nat):Int) == 92)):Option Bool)=some false:=fun r h1 h2=>by
          rw [show ((r:Int) == 34)=false by rw [qy];omega,show ((r:Int) == 92)=false by rw [qy];omega];rfl
        by_cases hp:32≤c.toNat∧c.toNat≤126
        · obtain ⟨g1,g2⟩:c.toNat<128∧Utf8.decode s i=(c.toNat,1):=by
            rcases hdec with hdec | hdec
            · exact hdec
            · omega
          have hpl:klt (c.toNat:Int)=true:=by unfold klt;simp;omega
          rw [hdr,qal,k2b (by omega) (by omega) hp,← qaa,← ih (d - 1) (by omega) (i+1) (acc++[c]) n (by omega) (by omega) (by omega) (by simp;omega)]
          refine kih ?_
          have w2:=kp7 (acc:=acc) (c:=c) rfl (by omega)
          simp only [kfs,d1,qd,g2,e1 c.toNat (by omega) (by omega),qa,qb,kos,hpl,k0k,w2]
        · obtain ⟨t,r,ht1,ht2⟩:=kah6 (by omega) h
          -- what is escaped
          obtain ⟨q1,q2,q3,q4,q5⟩:(Utf8.decode s i).1≠34∧(Utf8.decode s i).1≠92∧klt ((Utf8.decode s i).1:Int)=false∧(1≤(Utf8.decode s i).2∧i+(Utf8.decode s i).2≤s.size)∧∀ x∈(s.data.toList.drop i).take (Utf8.decode s i).2,escB x=hex4 x:=by
            rcases hdec with ⟨g1,g2⟩ | ⟨g1,g2,g3,g4,g5⟩
            · rw [g2]
              refine ⟨by omega,by omega,by unfold klt;simp;omega,⟨by omega,by show i+1≤_;omega⟩,fun x hx=>?_⟩
              rw [hdr] at hx
              simp at hx
              rw [hx]
              exact k0f (by omega) (by omega) hp
            · exact ⟨by omega,by omega,by unfold klt;simp;omega,⟨g3,g4⟩,fun x hx=>k0f (by have:=g5 x hx;omega) (by have:=g5 x hx;omega) (by have:=g5 x hx;omega)⟩
          obtain ⟨r',w,hrw⟩:∃ r' w,Utf8.decode s i=(r',w):=⟨_,_,rfl⟩
          rw [hrw] at q1 q2 q3 q4 q5 ht2
          simp only at q1 q2 q3 q4 q5 ht2
          have hsplit:s.data.toList.drop i=(s.data.toList.drop i).take w++s.data.toList.drop (i+w):=by
            rw [← List.drop_drop,qa5]
          have hlen:((s.data.toList.drop i).take w).length=w:=by rw [qai,qaq,← ka4];omega
          have hflat:(((s.data.toList.drop i).take w).flatMap hex4).length≤4*w:=by
            have gen:∀ l:List UInt8,(l.flatMap hex4).length=4*l.length:=fun l=>by
              induction l with
              | nil=>rfl
              | cons x l ih=>rw [qal,ql,ih,qq];simp [hex4];omega
            rw [gen,hlen]
            exact qw _
          rw [hsplit,List.flatMap_append,kaeh q5,← qaa,← ih (d - w) (by omega) (i+w) (acc++((s.data.toList.drop i).take w).flatMap hex4) n (by omega) (by omega) (by omega) (by simp only [ql];omega)]
          refine kih ?_
          have ew:w64 ((i:Int)+(w:Int))=((i+w:Nat):Int):=by rw [← w64n (i+w) (by omega)];congr 1
          have hx:=kad1 ((s.data.toList.drop i).take w) (by omega) w 0 acc fuel (by omega) (kbg (by omega)) (by omega)
          rw [qar] at hx
          simp only [kfs,d1,qd,hrw,e1 r' q1 q2,qa,qb,kos,q3,ht1,ht2,ew,kvk q4.2,kakg (l:=(s.data.toList.drop i).take w) (by omega)]
          rw [show (0:Int)=((0:Nat):Int) from rfl,hx]
          rfl
    · rw [qaf (by rw [← ka4];omega)]
      refine kdi ?_
      have d1:decide (i<ByteArray.size s)=false:=qc h
      simp only [kfs,d1,qb]
      simp
theorem k6l (c:UInt8):(escB c).length≤4:=by unfold escB;split <;> (try split) <;> simp
theorem kxv (l:List UInt8):(l.flatMap escB).length≤4*l.length:=by
  induction l with
  | nil=>exact qw _
  | cons x l ih=>rw [qal,ql,qq];have:=k6l x;omega
theorem k3s {s:BA} (hs:s.size≤100000):kjt s=some (mkB (kex s.data.toList)):=by
  have h1:=kp7 (acc:=[]) (c:=34) (n:=34) rfl (by simp)
  have h2:=k92 hs (s.size - 0) 0 [34] fuel rfl (by omega) (kbg (by omega)) (by simp;omega)
  have hl:=kxv s.data.toList
  rw [← ka4] at hl
  rw [qar] at h2
  have h3:=kp7 (acc:=[34]++s.data.toList.flatMap escB) (c:=34) (n:=34) rfl (by simp only [ql,qau];omega)
  have h1':kao [] 34=some (iB [34]):=h1
  simp only [kjt,h1',qa,h2,h3,kaw,k0l]
  unfold kex
  simp
theorem kew {a b:List UInt8} (h:a.length+b.length≤4000000000):cat (mkB a) (mkB b)=some (mkB (a++b)):=by
  rw [kakf (by rw [kcr,kcr];omega),k8t]
theorem k5z {s:BA} (hs:s.size≤100000):∀ (d i:Nat) (acc:List UInt8) (n:Nat),i+d=s.size→d<n→acc.length+4*d≤1000000000 →
    kaa (kdm s) n (mkB acc,(i:Int))=some (mkB (acc++(s.data.toList.drop i).flatMap escB)):=by
  intro d
  induction d with
  | zero=>
    intro i acc n hd hn hl
    obtain ⟨n,rfl⟩:∃ m,n=m+1:=⟨n - 1,by omega⟩
    rw [qaf (by rw [← ka4];omega)]
    refine kdi ?_
    have d1:decide ((i:Int)<(s.size:Int))=false:=qc (by omega)
    simp only [kdm,d1,qb]
    simp
  | succ d ih=>
    intro i acc n hd hn hl
    obtain ⟨n,rfl⟩:∃ m,n=m+1:=⟨n - 1,by omega⟩
    have h:i<s.size:=by omega
    obtain ⟨b1,b2,b3⟩:=kix h
    generalize s.data.toList[i]'(by rw [← ka4];exact h)=c at b2 b3
    have hcut:cutS s (i:Int) ((i+1:Nat):Int)=some (mkB [c]):=by rw [kvk (by omega),b2];rfl
    have hw:w64 (c.toNat:Int)=(c.toNat:Int):=by have:=c.toNat_lt;exact kei (by omega) (by omega)
    rw [b2,qal,← qaa,← ih (i+1) (acc++escB c) n (by omega) (by omega) (by have:=k6l c;simp only [ql];omega)]
    refine kih ?_
    by_cases hq:c.toNat=34∨c.toNat=92
    · have e1:(bif ((c.toNat:Int) == 34) then (some (true)) else (some ((c.toNat:Int) == 92)):Option Bool)=some true:=by rcases hq with hq | hq <;> rw [hq] <;> rfl
      have c1:cat (mkB acc) (⟨#[92]⟩:BA)=some (mkB (acc++[92])):=kew (b:=[92]) (by simp;omega)
      have c2:=kew (a:=acc++[92]) (b:=[c]) (by simp;omega)
      rw [qaa] at c2
      simp only [kdm,kbb h,qd,b1,b3,qa,e1,c1,w64s i (by omega),hcut,c2,kagn hq]
      rfl
    · have e1:(bif ((c.toNat:Int) == 34) then (some (true)) else (some ((c.toNat:Int) == 92)):Option Bool)=some false:=by
        rw [show ((c.toNat:Int) == 34)=false by rw [qy];omega,show ((c.toNat:Int) == 92)=false by rw [qy];omega];rfl
      by_cases hp:32≤c.toNat∧c.toNat≤126
      · have e2:(bif (decide ((c.toNat:Int)<32)) then (some (true)) else (some ((decide (126<(c.toNat:Int))))):Option Bool)=some false:=by
          rw [qc (by omega),qc (by omega)];rfl
        simp only [kdm,kbb h,qd,qb,b1,b3,hw,qa,e1,e2,w64s i (by omega),hcut,kew (a:=acc) (b:=[c]) (by simp;omega),k2b (show c.toNat≠34 by omega) (by omega) hp]
      · have e2:(bif (decide ((c.toNat:Int)<32)) then (some (true)) else (some ((decide (126<(c.toNat:Int))))):Option Bool)=some true:=by
          by_cases q:c.toNat<32
          · rw [qe (by omega)];rfl
          · rw [qc (by omega),qe (by omega)];rfl
        have c1:cat (mkB acc) (⟨#[92,120]⟩:BA)=some (mkB (acc++[92,120])):=kew (b:=[92,120]) (by simp;omega)
        have c2:=kew (a:=acc++[92,120]) (b:=[hexD (c.toNat / 16)]) (by simp;omega)
        have c3:=kew (a:=acc++[92,120]++[hexD (c.toNat / 16)]) (b:=[hexD (c.toNat % 16)]) (by simp;omega)
        simp only [kdm,kbb h,qd,qb,b1,b3,hw,qa,e1,e2,w64s i (by omega),c1,(ks0 c).2.2.1,(ks0 c).2.2.2,c2,c3,k0f (show c.toNat≠34 by omega) (by omega) hp]
        simp [hex4]
theorem k1d {s:BA} (hs:s.size≤100000):kiw s=some (mkB (kex s.data.toList)):=by
  have h2:=k5z hs s.size 0 [34] fuel (by omega) (kbg (by omega)) (by simp;omega)
  have hl:=kxv s.data.toList
  rw [← ka4] at hl
  rw [qar] at h2
  have h2':kaa (kdm s) fuel ((⟨#[34]⟩:BA),0)=some (mkB ([34]++s.data.toList.flatMap escB)):=h2
  have h3:cat (mkB ([34]++s.data.toList.flatMap escB)) (⟨#[34]⟩:BA)=some (mkB ([34]++s.data.toList.flatMap escB++[34])):=kew (b:=[34]) (by simp only [ql,qau];omega)
  simp only [kiw,h2',qa,h3]
  unfold kex
  simp
theorem kvf (n:Nat):Lib.decDigits n=decN n:=by
  induction n using Nat.strongRecOn with
  | ind n ih=>
    rw [Lib.decDigits,decN]
    split
    · rfl
    · rw [ih (n / 10) (by omega)]
theorem k27 {n:Int} (h1 : -9223372036854775808≤n) (h2:n≤9223372036854775807):kwl n 10=some (mkB (kb7 n)):=by
  unfold kwl
  rw [if_pos ⟨rfl,h1,h2⟩]
  congr 1
  unfold mkB Lib.itoa kb7
  split
  · rw [kvf]
  · rw [kvf,show n.toNat=n.natAbs by omega]
theorem kya (n:Nat) (h:n<100000000000):(decN n).length≤11:=by
  obtain ⟨d,ds,h1,_,_,_,h5⟩:=kst n
  rw [h1,qq]
  have:=h5 11 (by omega) (by simpa using h)
  omega
theorem k34 {m:Int} (h0:0≤m) (h1:m≤9):toBA [wu8 (w64 (48+m))]=mkB [UInt8.ofNat (48+m.toNat)]:=by
  rcases (by omega:m=0∨m=1∨m=2∨m=3∨m=4∨m=5∨m=6∨m=7∨m=8∨m=9) with rfl | rfl | rfl | rfl | rfl | rfl | rfl | rfl | rfl | rfl <;> rfl
theorem kadx:∀ (m:Nat) (tl:List UInt8) (n:Nat),m<9223372036854775807→m<n→tl.length+(decN m).length≤1000000 →
    ∃ d:Nat,∃ t:List UInt8,d≤9∧kaa kfi n ((m:Int),mkB tl)=some ((d:Int),mkB t)∧[UInt8.ofNat (48+d)]++t=decN m++tl:=by
  intro m
  induction m using Nat.strongRecOn with
  | ind m ih=>
    intro tl n hm hn hl
    obtain ⟨n,rfl⟩:∃ j,n=j+1:=⟨n - 1,by omega⟩
    by_cases h:m<10
    · have d1:decide ((10:Int)≤(m:Int))=false:=qc (by omega)
      refine ⟨m,tl,by omega,kdi (by simp only [kfi,d1,qb]),?_⟩
      rw [decN,dif_pos h]
    · have d1:decide ((10:Int)≤(m:Int))=true:=qe (by omega)
      have e0:decN m=decN (m / 10)++[UInt8.ofNat (48+m % 10)]:=by rw [decN,dif_neg h]
      rw [e0] at hl ⊢
      simp only [ql,qau] at hl
      obtain ⟨d,t,h1,h2,h3⟩:=ih (m / 10) (by omega) (UInt8.ofNat (48+m % 10)::tl) n (by omega) (by omega) (by simp;omega)
      refine ⟨d,t,h1,?_,by rw [h3];simp⟩
      rw [← h2]
      refine kih ?_
      have e1:Int.tmod (m:Int) 10=((m % 10:Nat):Int):=rfl
      have e2:w64 (Int.tdiv (m:Int) 10)=((m / 10:Nat):Int):=by
        rw [show Int.tdiv (m:Int) 10=((m / 10:Nat):Int) from rfl]
        exact kei (by omega) (by omega)
      have e3:=k34 (m:=((m % 10:Nat):Int)) (by omega) (by omega)
      have e4:=kew (a:=[UInt8.ofNat (48+m % 10)]) (b:=tl) (by simp;omega)
      rw [show (((m % 10:Nat):Int)).toNat=m % 10 from rfl] at e3
      simp only [kfi,d1,qd,e1,e2,e3,qa,e4]
      rfl
theorem kxm (k:Nat) (m:Nat) (h:m<100000000000):kdx (k+1) (m:Int)=some (mkB (decN m)):=by
  show kfr (kdx k) (m:Int)=_
  have d1:decide ((m:Int)<0)=false:=qc (by omega)
  have hl:=kya m h
  obtain ⟨d,t,h1,h2,h3⟩:=kadx m [] fuel (by omega) (kbg (by omega)) (by simp;omega)
  have h2':kaa kfi fuel ((m:Int),(⟨#[]⟩:BA))=some ((d:Int),mkB t):=h2
  rw [List.append_nil] at h3
  have e3:=k34 (m:=(d:Int)) (by omega) (by omega)
  rw [show ((d:Int)).toNat=d from rfl] at e3
  have hl2:=congrArg List.length h3
  simp only [ql,qau] at hl2
  simp only [kfr,d1,qb,h2',qa,e3,kew (a:=[UInt8.ofNat (48+d)]) (b:=t) (by simp;omega),h3]
theorem kz0 {n:Int} (h1 : -1000000≤n) (h2:n≤1000000):kdx fuel n=some (mkB (kb7 n)):=by
  rw [kne]
  unfold kb7
  by_cases h:n<0
  · rw [if_pos h]
    show kfr (kdx 18446744073709551615) n=_
    have d1:decide (n<0)=true:=qe h
    have ew:w64 (0 - n)=(n.natAbs:Int):=by rw [show 0 - n=(n.natAbs:Int) by omega];exact kei (by omega) (by omega)
    have hp:=kxm 18446744073709551614 n.natAbs (by omega)
    have hl:=kya n.natAbs (by omega)
    have hc:cat (⟨#[45]⟩:BA) (mkB (decN n.natAbs))=some (mkB ([45]++decN n.natAbs)):=kew (a:=[45]) (by simp;omega)
    simp only [kfr,d1,qd,ew,hp,qa,hc]
    rfl
  · rw [if_neg h]
    have:=kxm 18446744073709551615 n.natAbs (by omega)
    rwa [show ((n.natAbs:Nat):Int)=n by omega] at this
theorem krv (v:Va) (l:List Va):kff kac (v::l)=[44,32]++kac v++kff kac l:=by simp [kff]
theorem k3n {B:Nat}:∀ (l:List Va),(∀ x∈l,(kac x).length≤B)→(kff kac l).length≤l.length*(B+2)
  | [],_=>qx _
  | v::l,h=>by
    rw [krv]
    have h1:=h v (qo ..)
    have h2:=k3n l fun x hx=>h x (qk _ hx)
    simp only [ql,qq,qab]
    rw [Nat.add_mul,Nat.one_mul]
    omega
theorem k1k {B:Nat} (l:List Va) (h:∀ x∈l,(kac x).length≤B):(kba (l.map kac)).length≤l.length*(B+2):=by
  cases l with
  | nil=>exact qx _
  | cons v l=>
    have:=k3n (v::l) h
    rw [krv] at this
    rw [kky]
    simp only [ql] at this ⊢
    omega
theorem ku1 {l:List Va} {B C:Nat} (hC:C≤3000000000) {r22:List Int→List Va→Option (List Int)} (hl:l.length≤1000) (hB:B≤100000) (hb:∀ x∈l,(kac x).length≤B)
    (H:∀ x∈l,∀ acc:List UInt8,acc.length≤C→kcs r22 (iB acc) x=some (iB (acc++kac x))):
    ∀ (k m:Nat) (acc:List UInt8) (n:Nat),m+k=l.length→k<n→acc.length+k*(B+2)≤C →
    kaa (kdh l r22) n ((m:Int),iB acc)=some (iB (acc++if m=0 then kba (l.map kac) else kff kac (l.drop m))):=by
  intro k
  induction k with
  | zero=>
    intro m acc n hm hn ha
    obtain ⟨n,rfl⟩:∃ j,n=j+1:=⟨n - 1,by omega⟩
    have d1:decide ((m:Int)<(l.length:Int))=false:=qc (by omega)
    refine kdi ?_
    simp only [kdh,d1,qb]
    by_cases h:m=0
    · rw [if_pos h,qz (by omega:l.length=0)]
      simp [kba]
    · rw [if_neg h,qaf (by omega)]
      simp [kff]
  | succ k ih=>
    intro m acc n hm hn ha
    obtain ⟨n,rfl⟩:∃ j,n=j+1:=⟨n - 1,by omega⟩
    have hml:m<l.length:=by omega
    have e1:idx l (m:Int)=some l[m]:=by rw [kak,List.getElem?_eq_getElem hml]
    have hx:=qn hml
    have hB':=hb _ hx
    rw [Nat.add_mul,Nat.one_mul] at ha
    by_cases h:m=0
    · subst h
      have d2:decide ((0:Int)<((0:Nat):Int))=false:=rfl
      have w:=H _ hx acc (by omega)
      have hc:l.map kac=(l[0]::l.drop 1).map kac:=by rw [List.getElem_cons_drop,qar]
      rw [if_pos rfl,hc,kky,← qaa]
      have:=ih 1 (acc++kac l[0]) n (by omega) (by omega) (by simp only [ql];omega)
      rw [if_neg (by omega)] at this
      rw [← this]
      refine kih ?_
      simp only [kdh,kbb hml,qd,e1,qa,d2,qb,w,w64s 0 (by omega)]
    · have d2:decide ((0:Int)<(m:Int))=true:=qe (by omega)
      have w1:=kl5 (acc:=acc) (l:=[44,32]) (s:=⟨#[44,32]⟩) rfl (by omega) (by decide)
      have w:=H _ hx (acc++[44,32]) (by simp only [ql,qq,qab];omega)
      rw [if_neg h,qv hml,krv,← qaa,← qaa]
      have:=ih (m+1) (acc++[44,32]++kac l[m]) n (by omega) (by omega) (by simp only [ql,qq,qab];omega)
      rw [if_neg (by omega)] at this
      rw [← this]
      refine kih ?_
      simp only [kdh,kbb hml,qd,e1,qa,d2,w1,w,w64s m (by omega)]
theorem kaa0 {l:List Va} {B:Nat} {r29:Va→Option BA} (hl:l.length≤1000) (hB:B≤100000) (hb:∀ x∈l,(kac x).length≤B) (H:∀ x∈l,r29 x=some (mkB (kac x))):
    ∀ (k m:Nat) (acc:List UInt8) (n:Nat),m+k=l.length→k<n→acc.length+k*(B+2)≤1000000000 →
    kaa (ke0 l r29) n (mkB acc,(m:Int))=some (mkB (acc++if m=0 then kba (l.map kac) else kff kac (l.drop m))):=by
  intro k
  induction k with
  | zero=>
    intro m acc n hm hn ha
    obtain ⟨n,rfl⟩:∃ j,n=j+1:=⟨n - 1,by omega⟩
    have d1:decide ((m:Int)<(l.length:Int))=false:=qc (by omega)
    refine kdi ?_
    simp only [ke0,d1,qb]
    by_cases h:m=0
    · rw [if_pos h,qz (by omega:l.length=0)]
      simp [kba]
    · rw [if_neg h,qaf (by omega)]
      simp [kff]
  | succ k ih=>
    intro m acc n hm hn ha
    obtain ⟨n,rfl⟩:∃ j,n=j+1:=⟨n - 1,by omega⟩
    have hml:m<l.length:=by omega
    have e1:idx l (m:Int)=some l[m]:=by rw [kak,List.getElem?_eq_getElem hml]
    have hx:=qn hml
    have hB':=hb _ hx
    have w:=H _ hx
    rw [Nat.add_mul,Nat.one_mul] at ha
    by_cases h:m=0
    · subst h
      have d2:decide ((0:Int)<((0:Nat):Int))=false:=rfl
      have hc:l.map kac=(l[0]::l.drop 1).map kac:=by rw [List.getElem_cons_drop,qar]
      rw [if_pos rfl,hc,kky,← qaa]
      have:=ih 1 (acc++kac l[0]) n (by omega) (by omega) (by simp only [ql];omega)
      rw [if_neg (by omega)] at this
      rw [← this]
      refine kih ?_
      simp only [ke0,kbb hml,qd,e1,qa,d2,qb,w,kew (a:=acc) (b:=kac l[0]) (by omega),w64s 0 (by omega)]
    · have d2:decide ((0:Int)<(m:Int))=true:=qe (by omega)
      have c1:cat (mkB acc) (⟨#[44,32]⟩:BA)=some (mkB (acc++[44,32])):=kew (b:=[44,32]) (by simp;omega)
      have c2:=kew (a:=acc++[44,32]) (b:=kac l[m]) (by simp only [ql,qq,qab];omega)
      rw [if_neg h,qv hml,krv,← qaa,← qaa]
      have:=ih (m+1) (acc++[44,32]++kac l[m]) n (by omega) (by omega) (by simp only [ql,qq,qab];omega)
      rw [if_neg (by omega)] at this
      rw [← this]
      refine kih ?_
      simp only [ke0,kbb hml,qd,e1,qa,d2,c1,c2,w,w64s m (by omega)]
def okW (C B n m:Nat) (v:Va):Prop:=(∀ acc:List UInt8,acc.length≤C→kcs (kbr n) (iB acc) v=some (iB (acc++kac v)))∧kbm m v=some (mkB (kac v))∧(kac v).length≤B
theorem k6g {C B n m:Nat} (hC:C≤3000000000) {l:List Va} (hl:l.length≤1000) (hB:B≤100000) (h:∀ x∈l,okW C B n m x) (acc:List UInt8) (ha:acc.length+110000000≤C):
    kbr (n+1) (iB acc) l=some (iB (acc++kba (l.map kac)))∧kd4 (m+1) l=some (mkB (kba (l.map kac))):=by
  have hk:l.length*(B+2)≤1000*(100000+2):=Nat.mul_le_mul hl (by omega)
  have h1:=ku1 hC (r22:=kbr n) hl hB (fun x hx=>(h x hx).2.2) (fun x hx=>(h x hx).1) l.length 0 acc fuel (by omega) (kbg (by omega)) (by omega)
  have h2:=kaa0 (r29:=kbm m) hl hB (fun x hx=>(h x hx).2.2) (fun x hx=>(h x hx).2.1) l.length 0 [] fuel (by omega) (kbg (by omega)) (by simp;omega)
  rw [if_pos rfl] at h1 h2
  constructor
  · show kep (kbr n) (iB acc) l=_
    have h1':kaa (kdh l (kbr n)) fuel (0,iB acc)=some (iB (acc++kba (l.map kac))):=h1
    simp only [kep,h1',qa]
  · show kke (kbm m) (kd4 m) l=_
    have h2':kaa (ke0 l (kbm m)) fuel ((⟨#[]⟩:BA),0)=some (mkB (kba (l.map kac))):=h2
    simp only [kke,h2',qa]
theorem kr8 {n:Int} (h1 : -1000000≤n) (h2:n≤1000000):(kb7 n).length≤12:=by
  have:=kya n.natAbs (by omega)
  unfold kb7
  split
  · simp only [qq];omega
  · omega
theorem k6m {v:Va} (h:kns v) (n m:Nat):okW 3000000000 300 n (m+1) v:=by
  obtain ⟨k,rfl,h1,h2⟩:=h
  have hs:kac (Va.mk 2 k ⟨#[]⟩ [])=kb7 k:=by simp [kac]
  have hl:=kr8 h1 h2
  refine ⟨fun acc ha=>?_,?_,by rw [hs];omega⟩
  · have w:=kl5 (acc:=acc) (l:=kb7 k) (s:=mkB (kb7 k)) rfl (by omega) (by omega)
    simp only [kcs,show ((Va.mk 2 k ⟨#[]⟩ []).type == 1)=false from rfl,show ((Va.mk 2 k ⟨#[]⟩ []).type == 2)=true from rfl,qb,qd,kjk,show (Va.mk 2 k ⟨#[]⟩ []).num=k from rfl,k27 (show -9223372036854775808≤k by omega) (by omega),qa,w,qg,qf,hs]
  · rw [show ∀ v,kbm (m+1) v=kca (kbm m) (kd4 m) v from fun _=>rfl]
    simp only [kca,show ((Va.mk 2 k ⟨#[]⟩ []).type == 1)=false from rfl,show ((Va.mk 2 k ⟨#[]⟩ []).type == 2)=true from rfl,qb,qd,show (Va.mk 2 k ⟨#[]⟩ []).num=k from rfl,kz0 h1 h2,qa,hs]
theorem kzr (l:List UInt8):(kex l).length≤4*l.length+2:=by
  have:=kxv l
  unfold kex
  simp only [qq,ql,qab]
  omega
theorem k63 {v:Va} (h:ko0 v) (n m:Nat):okW 3000000000 300 n (m+1) v:=by
  obtain ⟨s,rfl,h1,h2,_⟩:=h
  have hs:kac (Va.mk 3 0 s [])=kex s.data.toList:=by simp [kac]
  have hl:=kzr s.data.toList
  rw [← ka4] at hl
  refine ⟨fun acc ha=>?_,?_,by rw [hs];omega⟩
  · have w:=kl5 (acc:=acc) (l:=kex s.data.toList) (s:=mkB (kex s.data.toList)) rfl (by omega) (by omega)
    simp only [kcs,show ((Va.mk 3 0 s []).type == 1)=false from rfl,show ((Va.mk 3 0 s []).type == 2)=false from rfl,show ((Va.mk 3 0 s []).type == 4)=false from rfl,show ((Va.mk 3 0 s []).type == 8)=false from rfl,show ((Va.mk 3 0 s []).type == 3)=true from rfl,qb,qd,show (Va.mk 3 0 s []).text=s from rfl,k3s (show s.size≤100000 by omega),qa,w,qg,qf,hs]
  · rw [show ∀ v,kbm (m+1) v=kca (kbm m) (kd4 m) v from fun _=>rfl]
    simp only [kca,show ((Va.mk 3 0 s []).type == 1)=false from rfl,show ((Va.mk 3 0 s []).type == 2)=false from rfl,show ((Va.mk 3 0 s []).type == 4)=false from rfl,show ((Va.mk 3 0 s []).type == 3)=true from rfl,qb,qd,show (Va.mk 3 0 s []).text=s from rfl,k1d (show s.size≤100000 by omega),qa,hs]
theorem kx8 {t:Int} {a b:UInt8} {l:List Va} {C B n m:Nat} (hC:2000000000≤C∧C≤3000000000) (ht:(t=5∧a=91∧b=93)∨(t=6∧a=123∧b=125)∨(t=7∧a=60∧b=62)) (hl:l.length≤16) (hB:B≤5000) (h:∀ x∈l,okW C B n m x):okW (C - 100000) (l.length*(B+2)+2) (n+1) (m+2) (Va.mk t 0 ⟨#[]⟩ l)∧kac (Va.mk t 0 ⟨#[]⟩ l)=a::(kba (l.map kac)++[b]):=by
  have hs:kac (Va.mk t 0 ⟨#[]⟩ l)=a::(kba (l.map kac)++[b]):=by rcases ht with ⟨rfl,rfl,rfl⟩ | ⟨rfl,rfl,rfl⟩ | ⟨rfl,rfl,rfl⟩ <;> simp [kac,kjy]
  have hj:=k1k l fun x hx=>(h x hx).2.2
  have hk:l.length*(B+2)≤16*(5000+2):=Nat.mul_le_mul hl (by omega)
  refine ⟨⟨fun acc ha=>?_,?_,by rw [hs];simp only [qq,ql,qab];omega⟩,hs⟩
  · have w0:=fun c:UInt8=>kl5 (acc:=acc) (l:=[c]) (s:=⟨#[c]⟩) rfl (by omega) (by simp)
    have w1:kbr (n+1) (iB (acc++[a])) l=some (iB (acc++[a]++kba (l.map kac))):=by
      have h1:=ku1 hC.2 (r22:=kbr n) (by omega) (show B≤100000 by omega) (fun x hx=>(h x hx).2.2) (fun x hx=>(h x hx).1) l.length 0 (acc++[a]) fuel (by omega) (kbg (by omega)) (by simp only [ql,qq,qab];omega)
      rw [if_pos rfl] at h1
      show kep (kbr n) (iB (acc++[a])) l=_
      have h1':kaa (kdh l (kbr n)) fuel (0,iB (acc++[a]))=_:=h1
      simp only [kep,h1',qa]
    have w2:=fun c:UInt8=>kl5 (acc:=acc++[a]++kba (l.map kac)) (l:=[c]) (s:=⟨#[c]⟩) rfl (by simp only [ql,qq,qab];omega) (by simp)
    rw [hs]
    rcases ht with ⟨rfl,rfl,rfl⟩ | ⟨rfl,rfl,rfl⟩ | ⟨rfl,rfl,rfl⟩
    all_goals
      simp only [kcs,show (Va.mk _ 0 (⟨#[]⟩:BA) l).items=l from rfl]
      show (Option.bind (kal (iB acc) _) _:Option (List Int)).bind _=_
      rw [w0,qa,w1,qa,w2]
      simp
  · rw [show ∀ v,kbm (m+2) v=kca (kbm (m+1)) (kd4 (m+1)) v from fun _=>rfl]
    have h2:=(k6g hC.2 (by omega) (by omega) h [] (by simp;omega)).2
    rw [hs]
    have c1:=fun c:UInt8=>kew (a:=[c]) (b:=kba (l.map kac)) (by simp;omega)
    have c2:=fun c d:UInt8=>kew (a:=[c]++kba (l.map kac)) (b:=[d]) (by simp only [ql,qq,qab];omega)
    rcases ht with ⟨rfl,rfl,rfl⟩ | ⟨rfl,rfl,rfl⟩ | ⟨rfl,rfl,rfl⟩
    all_goals
      simp only [kca]
      show (Option.bind (kd4 (m+1) l) _:Option BA)=_
      rw [h2,qa]
      show (Option.bind (cat (mkB [_]) _) _:Option BA)=_
      rw [c1,qa]
      show (Option.bind (cat _ (mkB [_])) _:Option BA)=_
      rw [c2]
      rfl
theorem kj3 {C C' B B' n m:Nat} {v:Va} (hC:C'≤C) (hB:B≤B') (h:okW C B n m v):okW C' B' n m v:=⟨fun acc ha=>h.1 acc (by omega),h.2.1,by have:=h.2.2;omega⟩
theorem k31 (m:Nat) (v:Va):kbm (m+1) v=kca (kbm m) (kd4 m) v:=rfl
theorem k5j {k:Int} (h:k=0∨k=1) (n m:Nat):okW 3000000000 300 n (m+1) (Va.mk 1 k ⟨#[]⟩ []):=by
  rcases h with rfl | rfl
  · refine ⟨fun acc ha=>?_,rfl,by decide⟩
    have w:=kl5 (acc:=acc) (l:=[102,97,108,115,101]) (s:=⟨#[102,97,108,115,101]⟩) rfl (by omega) (by decide)
    rw [show kac (Va.mk 1 0 ⟨#[]⟩ [])=[102,97,108,115,101] from rfl]
    simp only [kcs,show ((Va.mk 1 0 ⟨#[]⟩ []).type == 1)=true from rfl,qd,show ((Va.mk 1 0 ⟨#[]⟩ []).num == 1)=false from rfl,kh4,kef,qb,qa,w,qg,qf]
  · refine ⟨fun acc ha=>?_,rfl,by decide⟩
    have w:=kl5 (acc:=acc) (l:=[116,114,117,101]) (s:=⟨#[116,114,117,101]⟩) rfl (by omega) (by decide)
    rw [show kac (Va.mk 1 1 ⟨#[]⟩ [])=[116,114,117,101] from rfl]
    simp only [kcs,show ((Va.mk 1 1 ⟨#[]⟩ []).type == 1)=true from rfl,qd,show ((Va.mk 1 1 ⟨#[]⟩ []).num == 1)=true from rfl,kh4,kef,qa,w,qg,qf]
theorem kafu {k:Int} (h0:0≤k) (h1:k≤255) (n m:Nat):okW 2900000000 300 n (m+1) (Va.mk 4 k ⟨#[]⟩ []):=by
  obtain ⟨c,rfl⟩:∃ c:UInt8,k=(c.toNat:Int):=⟨UInt8.ofNat k.toNat,by rw [kj1 (by omega)];omega⟩
  have hs:kac (Va.mk 4 (c.toNat:Int) ⟨#[]⟩ [])=[48,120,hexD (c.toNat / 16),hexD (c.toNat % 16)]:=by simp [kac]
  refine ⟨fun acc ha=>?_,?_,by rw [hs];simp⟩
  · have w:=kl5 (acc:=acc) (l:=[48,120]) (s:=⟨#[48,120]⟩) rfl (by omega) (by decide)
    have w2:=k6s (acc:=acc++[48,120]) (c:=c) rfl (by simp;omega)
    rw [hs]
    simp only [kcs,show ((Va.mk 4 (c.toNat:Int) ⟨#[]⟩ []).type == 1)=false from rfl,show ((Va.mk 4 (c.toNat:Int) ⟨#[]⟩ []).type == 2)=false from rfl,show ((Va.mk 4 (c.toNat:Int) ⟨#[]⟩ []).type == 4)=true from rfl,qd,qb,show (Va.mk 4 (c.toNat:Int) ⟨#[]⟩ []).num=(c.toNat:Int) from rfl,k0k,qa,w,w2,qg,qf]
    simp
  · rw [k31,hs]
    have c1:cat (⟨#[48,120]⟩:BA) (mkB [hexD (c.toNat / 16)])=some (mkB ([48,120]++[hexD (c.toNat / 16)])):=kew (a:=[48,120]) (by simp)
    have c2:=kew (a:=[48,120]++[hexD (c.toNat / 16)]) (b:=[hexD (c.toNat % 16)]) (by simp)
    simp only [kca,show ((Va.mk 4 (c.toNat:Int) ⟨#[]⟩ []).type == 1)=false from rfl,show ((Va.mk 4 (c.toNat:Int) ⟨#[]⟩ []).type == 2)=false from rfl,show ((Va.mk 4 (c.toNat:Int) ⟨#[]⟩ []).type == 4)=true from rfl,qd,qb,show (Va.mk 4 (c.toNat:Int) ⟨#[]⟩ []).num=(c.toNat:Int) from rfl,(ks0 c).2.2.1,(ks0 c).2.2.2,qa,c1,c2]
    rfl
theorem kab1 {s:BA} (h:s.size≤40) (n m:Nat):okW 2900000000 300 n (m+1) (Va.mk 8 0 s []):=by
  have hs:kac (Va.mk 8 0 s [])=114::kex s.data.toList:=by simp [kac]
  have hl:=kzr s.data.toList
  rw [← ka4] at hl
  refine ⟨fun acc ha=>?_,?_,by rw [hs];simp only [qq];omega⟩
  · have w:=kp7 (acc:=acc) (c:=114) (n:=114) rfl (by omega)
    have w2:=kl5 (acc:=acc++[114]) (l:=kex s.data.toList) (s:=mkB (kex s.data.toList)) rfl (by simp;omega) (by omega)
    rw [hs]
    simp only [kcs,show ((Va.mk 8 0 s []).type == 1)=false from rfl,show ((Va.mk 8 0 s []).type == 2)=false from rfl,show ((Va.mk 8 0 s []).type == 4)=false from rfl,show ((Va.mk 8 0 s []).type == 8)=true from rfl,qd,qb,show (Va.mk 8 0 s []).text=s from rfl,k3s (show s.size≤100000 by omega),qa,w,w2,qg,qf]
    simp
  · rw [k31,hs]
    have c1:cat (⟨#[114]⟩:BA) (mkB (kex s.data.toList))=some (mkB ([114]++kex s.data.toList)):=kew (a:=[114]) (by simp;omega)
    simp only [kca,show ((Va.mk 8 0 s []).type == 1)=false from rfl,show ((Va.mk 8 0 s []).type == 2)=false from rfl,show ((Va.mk 8 0 s []).type == 4)=false from rfl,show ((Va.mk 8 0 s []).type == 3)=false from rfl,show ((Va.mk 8 0 s []).type == 8)=true from rfl,qd,qb,show (Va.mk 8 0 s []).text=s from rfl,k1d (show s.size≤100000 by omega),qa,c1]
    rfl
theorem k6q {v:Va} {lo hi:Nat} (hhi:hi≤16) (h:kty lo hi v) (n m:Nat):okW 2999900000 5000 (n+1) (m+3) v:=by
  obtain ⟨l,rfl,h1,h2,h3⟩:=h
  have:=(kx8 (t:=6) (a:=123) (b:=125) (C:=3000000000) (n:=n) (m:=m+1) (by omega) (.inr (.inl ⟨rfl,rfl,rfl⟩)) (by omega) (B:=300) (by omega) fun x hx=>k63 (h3 x hx) n m).1
  have hk:l.length*(300+2)≤16*(300+2):=Nat.mul_le_mul_right _ (by omega)
  exact kj3 (by omega) (by omega) this
theorem ks6 {v:Va} (h:kgh v) (n m:Nat):okW 2500000000 60000 (n+2) (m+5) v:=by
  rcases h with (rfl | rfl) | h | ⟨k,rfl,h0,h1⟩ | h | ⟨s,rfl,h⟩ | ⟨l,rfl,h1,h2⟩ | h | ⟨l,rfl,h1,k,h2,h3,h4⟩
  · exact kj3 (by omega) (by omega) (k5j (.inl rfl) (n+2) (m+4))
  · exact kj3 (by omega) (by omega) (k5j (.inr rfl) (n+2) (m+4))
  · exact kj3 (by omega) (by omega) (k6m h (n+2) (m+4))
  · exact kj3 (by omega) (by omega) (kafu h0 h1 (n+2) (m+4))
  · exact kj3 (by omega) (by omega) (k63 h (n+2) (m+4))
  · exact kj3 (by omega) (by omega) (kab1 h.2.1 (n+2) (m+4))
  · have:=(kx8 (t:=5) (a:=91) (b:=93) (C:=3000000000) (n:=n+1) (m:=m+3) (by omega) (.inl ⟨rfl,rfl,rfl⟩) h1 (B:=300) (by omega) fun x hx=>k6m (h2 x hx) (n+1) (m+2)).1
    have hk:l.length*(300+2)≤16*(300+2):=Nat.mul_le_mul_right _ (by omega)
    exact kj3 (by omega) (by omega) this
  · exact kj3 (by omega) (by omega) (k6q (by omega) h (n+1) (m+2))
  · have:=(kx8 (t:=7) (a:=60) (b:=62) (C:=2999900000) (n:=n+1) (m:=m+3) (by omega) (.inr (.inr ⟨rfl,rfl,rfl⟩)) (by omega) (B:=5000) (by omega) fun x hx=>k6q (show k≤16 by omega) (h4 x hx) n m).1
    have hk:l.length*(5000+2)≤8*(5000+2):=Nat.mul_le_mul_right _ (by omega)
    exact kj3 (by omega) (by omega) this
theorem kag3:∃ k,fuel=k+9:=⟨18446744073709551607,by unfold fuel;omega⟩
theorem written {l:List Va} (hl:l.length≤1000) (h:∀ x∈l,kgh x):kbr fuel [] l=some (iB (kba (l.map kac)))∧kd4 fuel l=some (mkB (kba (l.map kac)))∧(kba (l.map kac)).length≤l.length*60002:=by
  obtain ⟨k,hk⟩:=kag3
  rw [hk]
  generalize fuel=ff at hk
  have h1:=k6g (C:=2500000000) (B:=60000) (n:=k+8) (m:=k+8) (by omega) hl (by omega) (fun x hx=>ks6 (h x hx) (k+6) (k+3)) [] (by simp)
  exact ⟨h1.1,h1.2,k1k l fun x hx=>(ks6 (h x hx) 0 0).2.2⟩
theorem kql {m a b:Int} (h:kgx m a b=some 0):a≤m∧m≤b:=by
  unfold kgx at h
  by_cases h1:m<a
  · rw [qe h1] at h;simp at h
  · rw [qc h1] at h
    by_cases h2:b<m
    · rw [qe h2] at h;simp at h
    · omega
theorem ky1 {s:BA} {a b:Nat} (hs:s.size≤9223372036854775807) (h:khv s (a:Int) (b:Int)=some 0):kzh a b s:=by
  unfold khv at h
  by_cases h1:(s.size:Int)<(a:Int)
  · rw [qe h1] at h;simp at h
  · rw [qc h1] at h
    by_cases h2:(b:Int)<(s.size:Int)
    · rw [qe h2] at h;simp at h
    · rw [qc h2,km3 s hs] at h
      cases hall:s.data.toList.all kmc with
      | false=>rw [hall] at h;simp at h
      | true=>exact ⟨by omega,by omega,fun c hc=>qm.1 hall c hc⟩
theorem kij {s:BA} (h:(s.toList == (⟨#[]⟩:BA).toList)=true):s=⟨#[]⟩:=kjp (by simpa using h)
theorem ki0 {l:List Va} (h:((l.length:Int) == 0)=true):l=[]:=qz (by have:=eq_of_beq h;omega)
theorem k4n {v:Va} (h:kgh v) (ht:v.type=2):kns v:=by
  rcases h with (rfl | rfl) | h | ⟨k,rfl,h0,h1⟩ | ⟨s,rfl,h⟩ | ⟨s,rfl,h⟩ | ⟨l,rfl,h1,h2⟩ | ⟨l,rfl,h⟩ | ⟨l,rfl,h1,k,h2,h3,h4⟩
  all_goals first | exact h | (simp [Va.type] at ht)
theorem k41 {v:Va} (h:kgh v) (ht:v.type=3):ko0 v:=by
  rcases h with (rfl | rfl) | ⟨k,rfl,h0,h1⟩ | ⟨k,rfl,h0,h1⟩ | h | ⟨s,rfl,h⟩ | ⟨l,rfl,h1,h2⟩ | ⟨l,rfl,h⟩ | ⟨l,rfl,h1,k,h2,h3,h4⟩
  all_goals first | exact h | (simp [Va.type] at ht)
theorem k4p {v:Va} (h:kgh v) (ht:v.type=6):kty 0 16 v:=by
  rcases h with (rfl | rfl) | ⟨k,rfl,h0,h1⟩ | ⟨k,rfl,h0,h1⟩ | ⟨s,rfl,h⟩ | ⟨s,rfl,h⟩ | ⟨l,rfl,h1,h2⟩ | h | ⟨l,rfl,h1,k,h2,h3,h4⟩
  all_goals first | exact h | (simp [Va.type] at ht)
theorem krq {n:Nat} {l:List Va} {t:Int} (wl:∀ x∈l,inV x) (hlen:l.length≤9223372036854775807) (hc:∀ x∈l,x.type=t→∃ c,kah n x=some c) (h:ke3 (n+1) l t=some 0):l.length≤16∧∀ x∈l,x.type=t∧kah n x=some 0:=by
  have h:keq (kah n) (ke3 n) (khs n) l t=some 0:=h
  by_cases h16:(16:Int)<(l.length:Int)
  · simp only [keq,qe h16,qd] at h;cases h
  · simp only [keq,qc h16,qb] at h
    refine ⟨by omega,?_⟩
    have hst:∀ (i:Nat) (hi:i<l.length),(kan l t (kah n) (i:Int)=some (.inl ((i+1:Nat):Int))∧l[i].type=t∧kah n l[i]=some 0)∨∃ c,c≠0∧kan l t (kah n) (i:Int)=some (.inr (.inr c)):=fun i hi=>by
      have e1:l[i]?=some l[i]:=List.getElem?_eq_getElem hi
      have hw:=kb9 (n:=i) (by omega)
      cases ht:(l[i].type != t) with
      | true=>exact .inr ⟨3,by decide,by simp only [kan,kbb hi,kak,e1,ht,qd,qa]⟩
      | false=>
        have hty:l[i].type=t:=by rwa [bne_eq_false_iff_eq] at ht
        obtain ⟨c,k1⟩:=hc _ (qn hi) hty
        cases hc':(c != 0) with
        | true=>exact .inr ⟨c,by simpa using hc',by simp only [kan,kbb hi,kak,e1,ht,k1,hc',qd,qb,qa]⟩
        | false=>exact .inl ⟨by simp only [kan,kbb hi,kak,e1,ht,k1,hc',hw,qd,qb,qa],hty,by rw [k1];rw [bne_eq_false_iff_eq] at hc'; rw [hc']⟩
    cases hr:kaa (kan l t (kah n)) fuel 0 with
    | none=>rw [hr] at h;cases h
    | some r=>
      obtain ⟨r2,r3,f1,f2,f3⟩:=kjf (step:=kan l t (kah n)) (step':=kan l t (kah n)) l.length (by omega) (fun i=>(i:Int)) (fun i=>(i:Int)) (fun r r'=>∀ c,r = .inr c→c≠0) (fun i hi=>by
        rcases hst i hi with ⟨a1,_⟩ | ⟨c,h0,a1⟩
        · exact .inl ⟨a1,a1⟩
        · exact .inr ⟨_,_,a1,a1,fun c' h=>by cases h;exact h0⟩) ⟨.inl (), .inl (),by simp [kan],by simp [kan],fun c h=>by cases h⟩
      have f1':kaa (kan l t (kah n)) fuel 0=some r2:=by simpa using f1
      rw [hr] at f1'
      cases f1'
      rw [hr,qa] at h
      cases r with
      | inr c=>exact absurd (qp h) (f3 c rfl)
      | inl u=>
        intro x hx
        obtain ⟨i,hi,rfl⟩:=qs.1 hx
        have hall:=kl0 (step:=kan l t (kah n)) l.length (fun i=>(i:Int)) (.inl u) (fun i hi=>by
          rcases hst i hi with ⟨a1,_⟩ | ⟨c,_,a1⟩
          · exact .inl a1
          · exact .inr ⟨_,a1,fun h=>by cases h⟩) fuel 0 hr i (qx _) hi
        rcases hst i hi with ⟨_,h⟩ | ⟨c,_,a1⟩
        · exact h
        · rw [a1] at hall;cases hall
theorem kagd {n:Nat} {l:List Va} (wl:∀ x∈l,inV x) (hlen:l.length≤9223372036854775807) (hc:∀ x∈l,x.type=6→∃ c,kah n x=some c) (h:khs (n+1) l=some 0):l.length≤8∧∃ k,1≤k∧k≤8∧∀ x∈l,x.type=6∧x.items.length=k∧kah n x=some 0:=by
  have h:kgy (kah n) (ke3 n) (khs n) l=some 0:=h
  by_cases h16:(8:Int)<(l.length:Int)
  · simp only [kgy,qe h16,qd] at h;cases h
  · simp only [kgy,qc h16,qb] at h
    refine ⟨by omega,?_⟩
    have hst:∀ (i:Nat) (hi:i<l.length),(kax l (kah n) (i:Int)=some (.inl ((i+1:Nat):Int))∧l[i].type=6∧(1≤l[i].items.length∧l[i].items.length≤8∧l[i].items.length=(l[0]'(by omega)).items.length)∧kah n l[i]=some 0)∨∃ c,c≠0∧kax l (kah n) (i:Int)=some (.inr (.inr c)):=fun i hi=>by
      have e1:l[i]?=some l[i]:=List.getElem?_eq_getElem hi
      have e0:idx l 0=some (l[0]'(by omega)):=by rw [show (0:Int)=((0:Nat):Int) from rfl,kak,List.getElem?_eq_getElem]
      have hw:=kb9 (n:=i) (by omega)
      cases ht:(l[i].type != 6) with
      | true=>exact .inr ⟨3,by decide,by simp only [kax,kbb hi,kak,e1,ht,qd,qa]⟩
      | false=>
        have hty:l[i].type=6:=by rwa [bne_eq_false_iff_eq] at ht
        obtain ⟨c,k1⟩:=hc _ (qn hi) hty
        by_cases hq:1≤l[i].items.length∧l[i].items.length≤8∧l[i].items.length=(l[0]'(by omega)).items.length
        · have e3:(bif decide ((l[i].items.length:Int)<1) then some true else bif decide (8<(l[i].items.length:Int)) then some true else (some ((l[i].items.length:Int) != ((l[0]'(by omega)).items.length:Int)):Option Bool))=some false:=by
            rw [qc (by omega),qc (by omega),hq.2.2];simp
          cases hc':(c != 0) with
          | true=>exact .inr ⟨c,by simpa using hc',by simp only [kax,kbb hi,kak,e1,e0,ht,e3,k1,hc',qd,qb,qa]⟩
          | false=>exact .inl ⟨by simp only [kax,kbb hi,kak,e1,e0,ht,e3,k1,hc',hw,qd,qb,qa],hty,hq,by rw [k1];rw [bne_eq_false_iff_eq] at hc'; rw [hc']⟩
        · have e3:(bif decide ((l[i].items.length:Int)<1) then some true else bif decide (8<(l[i].items.length:Int)) then some true else (some ((l[i].items.length:Int) != ((l[0]'(by omega)).items.length:Int)):Option Bool))=some true:=by
            by_cases q1:(l[i].items.length:Int)<1
            · rw [qe q1];rfl
            · by_cases q2:8<(l[i].items.length:Int)
              · rw [qe q2,qc q1];rfl
              · rw [qc q1,qc q2,qb,qb]
                congr 1
                simp
                omega
          exact .inr ⟨2,by decide,by simp only [kax,kbb hi,kak,e1,e0,ht,e3,qd,qb,qa]⟩
    cases hr:kaa (kax l (kah n)) fuel 0 with
    | none=>rw [hr] at h;cases h
    | some r=>
      obtain ⟨r2,r3,f1,f2,f3⟩:=kjf (step:=kax l (kah n)) (step':=kax l (kah n)) l.length (by omega) (fun i=>(i:Int)) (fun i=>(i:Int)) (fun r r'=>∀ c,r = .inr c→c≠0) (fun i hi=>by
        rcases hst i hi with ⟨a1,_⟩ | ⟨c,h0,a1⟩
        · exact .inl ⟨a1,a1⟩
        · exact .inr ⟨_,_,a1,a1,fun c' h=>by cases h;exact h0⟩) ⟨.inl (), .inl (),by simp [kax],by simp [kax],fun c h=>by cases h⟩
      have f1':kaa (kax l (kah n)) fuel 0=some r2:=by simpa using f1
      rw [hr] at f1'
      cases f1'
      rw [hr,qa] at h
      cases r with
      | inr c=>exact absurd (qp h) (f3 c rfl)
      | inl u=>
        have all:∀ (i:Nat) (hi:i<l.length),l[i].type=6∧(1≤l[i].items.length∧l[i].items.length≤8∧l[i].items.length=(l[0]'(by omega)).items.length)∧kah n l[i]=some 0:=fun i hi=>by
          have hall:=kl0 (step:=kax l (kah n)) l.length (fun i=>(i:Int)) (.inl u) (fun i hi=>by
            rcases hst i hi with ⟨a1,_⟩ | ⟨c,_,a1⟩
            · exact .inl a1
            · exact .inr ⟨_,a1,fun h=>by cases h⟩) fuel 0 hr i (qx _) hi
          rcases hst i hi with ⟨_,h⟩ | ⟨c,_,a1⟩
          · exact h
          · rw [a1] at hall;cases hall
        by_cases hl0:0<l.length
        · have z:=(all 0 hl0).2.1
          refine ⟨(l[0]'hl0).items.length,z.1,z.2.1,fun x hx=>?_⟩
          obtain ⟨i,hi,rfl⟩:=qs.1 hx
          have:=all i hi
          exact ⟨this.1,this.2.1.2.2,this.2.2⟩
        · exact ⟨1,by omega,by omega,fun x hx=>by rw [qz (by omega:l.length=0)] at hx;cases hx⟩
theorem va_t (t m:Int) (s:BA) (l:List Va):(Va.mk t m s l).type=t:=rfl
theorem va_n (t m:Int) (s:BA) (l:List Va):(Va.mk t m s l).num=m:=rfl
theorem va_s (t m:Int) (s:BA) (l:List Va):(Va.mk t m s l).text=s:=rfl
theorem va_l (t m:Int) (s:BA) (l:List Va):(Va.mk t m s l).items=l:=rfl
theorem kafd:∀ (n:Nat) (x:Va),2*rkT x.type≤n→inV x→kah n x=some 0→kgh x:=by
  intro n
  induction n using Nat.strongRecOn with
  | ind n ih=>
    intro x hn hx h
    have h1rk:1≤rkT x.type:=by unfold rkT;split <;> (try split) <;> omega
    obtain ⟨n,rfl⟩:∃ m,n=m+2:=⟨n - 2,by omega⟩
    replace h:kbu (kah (n+1)) (ke3 (n+1)) (khs (n+1)) x=some 0:=h
    obtain ⟨lx,sx,wx⟩:=k08 hx
    by_cases h0:x.type<1
    · simp [kbu,h0] at h
    by_cases h8:8<x.type
    · simp [kbu,h0,h8] at h
    have hcc:∀ k (y:Va),2*rkT y.type≤k→inV y→∃ c,kah k y=some c:=fun k y h1 h2=>by
      obtain ⟨c,hc,_⟩:=(k0j k).1 y h1 h2
      exact ⟨c,hc⟩
    have ht:x.type=1∨x.type=2∨x.type=3∨x.type=4∨x.type=5∨x.type=6∨x.type=7∨x.type=8:=by omega
    obtain ⟨t,m,s,l⟩:=x
    simp only [va_t,va_n,va_s,va_l] at *
    cases hz:(s.toList == (⟨#[]⟩:BA).toList) <;> cases hm:(m == 0) <;> cases hl:((l.length:Int) == 0) <;>
      rcases ht with rfl | rfl | rfl | rfl | rfl | rfl | rfl | rfl <;>
      simp only [kbu,kd8,va_t,va_n,va_s,va_l,hz,hm,hl] at h <;> simp at h
    · obtain ⟨c,hc⟩:=kn1 s 0 64 sx
      rw [hc] at h;simp at h;subst h
      obtain rfl:=ki0 hl
      obtain rfl:=eq_of_beq hm
      exact .inr (.inr (.inr (.inl ⟨s,rfl,ky1 (a:=0) (b:=64) sx hc⟩)))
    · obtain ⟨c,hc⟩:=kn1 s 1 40 sx
      rw [hc] at h;simp at h;subst h
      obtain rfl:=ki0 hl
      obtain rfl:=eq_of_beq hm
      exact .inr (.inr (.inr (.inr (.inl ⟨s,rfl,ky1 (a:=1) (b:=40) sx hc⟩))))
    · obtain ⟨c,hc,_⟩:=kht m 0 1
      rw [hc] at h;simp at h;subst h
      obtain rfl:=ki0 hl
      obtain rfl:=kij hz
      have hr:=kql hc
      rcases (by omega:m=0∨m=1) with rfl | rfl
      · exact .inl (.inl rfl)
      · exact .inl (.inr rfl)
    · obtain ⟨c,hc,_⟩:=kht m (-1000000) 1000000
      rw [hc] at h;simp at h;subst h
      obtain rfl:=ki0 hl
      obtain rfl:=kij hz
      have hr:=kql hc
      exact .inr (.inl ⟨m,rfl,hr.1,hr.2⟩)
    · obtain ⟨c,hc,_⟩:=kht m 0 255
      rw [hc] at h;simp at h;subst h
      obtain rfl:=ki0 hl
      obtain rfl:=kij hz
      have hr:=kql hc
      exact .inr (.inr (.inl ⟨m,rfl,hr.1,hr.2⟩))
    · obtain rfl:=kij hz
      obtain rfl:=eq_of_beq hm
      have hn':2≤n:=by have:rkT 5=2:=rfl;omega
      obtain ⟨h1,h2⟩:=krq wx lx (fun y hy hty=>hcc n y (by rw [hty];exact hn') (wx y hy)) h
      exact .inr (.inr (.inr (.inr (.inr (.inl ⟨l,rfl,h1,fun y hy=>k4n (ih n (by omega) y (by rw [(h2 y hy).1];exact hn') (wx y hy) (h2 y hy).2) (h2 y hy).1⟩)))))
    · obtain rfl:=kij hz
      obtain rfl:=eq_of_beq hm
      have hn':2≤n:=by have:rkT 6=2:=rfl;omega
      obtain ⟨h1,h2⟩:=krq wx lx (fun y hy hty=>hcc n y (by rw [hty];exact hn') (wx y hy)) h
      exact .inr (.inr (.inr (.inr (.inr (.inr (.inl ⟨l,rfl,qx _,h1,fun y hy=>k41 (ih n (by omega) y (by rw [(h2 y hy).1];exact hn') (wx y hy) (h2 y hy).2) (h2 y hy).1⟩))))))
    · obtain rfl:=kij hz
      obtain rfl:=eq_of_beq hm
      have hn':4≤n:=by have:rkT 7=3:=rfl;omega
      obtain ⟨h1,k,k1,k2,h2⟩:=kagd wx lx (fun y hy hty=>hcc n y (by rw [hty];exact hn') (wx y hy)) h
      refine .inr (.inr (.inr (.inr (.inr (.inr (.inr ⟨l,rfl,h1,k,k1,k2,fun y hy=>?_⟩))))))
      obtain ⟨l',rfl,_,_,q⟩:=k4p (ih n (by omega) y (by rw [(h2 y hy).1];exact hn') (wx y hy) (h2 y hy).2.2) (h2 y hy).1
      have hk:l'.length=k:=(h2 _ hy).2.1
      exact ⟨l',rfl,by omega,by omega,q⟩
    · obtain ⟨c,hc,_⟩:=kht m 0 1
      rw [hc] at h;simp at h;subst h
      obtain rfl:=ki0 hl
      obtain rfl:=kij hz
      have hr:=kql hc
      rcases (by omega:m=0∨m=1) with rfl | rfl
      · exact .inl (.inl rfl)
      · exact .inl (.inr rfl)
    · obtain ⟨c,hc,_⟩:=kht m (-1000000) 1000000
      rw [hc] at h;simp at h;subst h
      obtain rfl:=ki0 hl
      obtain rfl:=kij hz
      have hr:=kql hc
      exact .inr (.inl ⟨m,rfl,hr.1,hr.2⟩)
    · obtain ⟨c,hc⟩:=kn1 s 0 64 sx
      rw [hc] at h;simp at h;subst h
      obtain rfl:=ki0 hl
      obtain rfl:=eq_of_beq hm
      exact .inr (.inr (.inr (.inl ⟨s,rfl,ky1 (a:=0) (b:=64) sx hc⟩)))
    · obtain ⟨c,hc,_⟩:=kht m 0 255
      rw [hc] at h;simp at h;subst h
      obtain rfl:=ki0 hl
      obtain rfl:=kij hz
      have hr:=kql hc
      exact .inr (.inr (.inl ⟨m,rfl,hr.1,hr.2⟩))
    · obtain rfl:=kij hz
      obtain rfl:=eq_of_beq hm
      have hn':2≤n:=by have:rkT 5=2:=rfl;omega
      obtain ⟨h1,h2⟩:=krq wx lx (fun y hy hty=>hcc n y (by rw [hty];exact hn') (wx y hy)) h
      exact .inr (.inr (.inr (.inr (.inr (.inl ⟨l,rfl,h1,fun y hy=>k4n (ih n (by omega) y (by rw [(h2 y hy).1];exact hn') (wx y hy) (h2 y hy).2) (h2 y hy).1⟩)))))
    · obtain rfl:=kij hz
      obtain rfl:=eq_of_beq hm
      have hn':2≤n:=by have:rkT 6=2:=rfl;omega
      obtain ⟨h1,h2⟩:=krq wx lx (fun y hy hty=>hcc n y (by rw [hty];exact hn') (wx y hy)) h
      exact .inr (.inr (.inr (.inr (.inr (.inr (.inl ⟨l,rfl,qx _,h1,fun y hy=>k41 (ih n (by omega) y (by rw [(h2 y hy).1];exact hn') (wx y hy) (h2 y hy).2) (h2 y hy).1⟩))))))
    · obtain rfl:=kij hz
      obtain rfl:=eq_of_beq hm
      have hn':4≤n:=by have:rkT 7=3:=rfl;omega
      obtain ⟨h1,k,k1,k2,h2⟩:=kagd wx lx (fun y hy hty=>hcc n y (by rw [hty];exact hn') (wx y hy)) h
      refine .inr (.inr (.inr (.inr (.inr (.inr (.inr ⟨l,rfl,h1,k,k1,k2,fun y hy=>?_⟩))))))
      obtain ⟨l',rfl,_,_,q⟩:=k4p (ih n (by omega) y (by rw [(h2 y hy).1];exact hn') (wx y hy) (h2 y hy).2.2) (h2 y hy).1
      have hk:l'.length=k:=(h2 _ hy).2.1
      exact ⟨l',rfl,by omega,by omega,q⟩
    · obtain ⟨c,hc⟩:=kn1 s 1 40 sx
      rw [hc] at h;simp at h;subst h
      obtain rfl:=ki0 hl
      obtain rfl:=eq_of_beq hm
      exact .inr (.inr (.inr (.inr (.inl ⟨s,rfl,ky1 (a:=1) (b:=40) sx hc⟩))))
theorem ok_of {x:Va} (hx:inV x) (h:kah fuel x=some 0):kgh x:=kafd fuel x (qaw (Nat.mul_le_mul_left 2 (k3f x.type)) (qa2 (kbg (by omega)))) hx h
theorem kafz {n:Int} (h:khm n):ki3 n=some (mkB (kb7 n)):=by
  have h1 : -9223372036854775808≤n:=h.1
  have h2:n≤9223372036854775807:=by have:=h.2;omega
  simp only [ki3,kha,k27 h1 h2,qa]
def nOk (n:Int):Prop := -1000≤n∧n≤1000
theorem nOk.itoa {n:Int} (h:nOk n):ki3 n=some (mkB (kb7 n)):=kafz (by have:=h.1;have:=h.2;constructor <;> omega)
theorem nOk.num {n:Int} (h:nOk n):kh7 n=some (mkB (kb7 n)):=by
  have:=kz0 (n:=n) (by have:=h.1;omega) (by have:=h.2;omega)
  simp only [kh7,this,qa]
structure WrR (r:Ru):Prop where
  sym:nOk r.symbol
  inp:nOk r.input
  args:∀ a∈r.args,nOk a
  few:r.args.length≤1000
  op:r.op.size≤1000
  const:r.kind=2→kgh r.const∧kie r.const=some (mkB (kac r.const),0)∧kgv r.const=some (mkB (kac r.const),0)
theorem k07 {v:Va} (h:kgh v):(kac v).length≤60000:=(ks6 h 0 0).2.2
structure WrL (l:La):Prop where
  name:l.name.size≤1000
  inputs:l.inputs.length≤1000
  ins:∀ t∈l.inputs,nOk t
  symbols:l.symbols.length≤1000
  names:∀ x∈l.symbols,x.name.size≤1000∧nOk x.type
  rules:l.rules.length≤96
  ruls:∀ r∈l.rules,WrR r
theorem k5x {x:Va} (hx:inV x) (h:kah fuel x=some 0):kgh x∧kie x=some (mkB (kac x),0)∧kgv x=some (mkB (kac x),0):=by
  have hok:=ok_of hx h
  obtain ⟨c,c1,c2,_⟩:=kwn hx
  obtain rfl:c=0:=by rw [h] at c1;exact (qp c1).symm
  obtain ⟨w1,_,_⟩:=written (l:=[x]) (by simp) (fun y hy=>by rw [qay.1 hy];exact hok)
  have hj:kba ([x].map kac)=kac x:=by simp [kba]
  rw [hj] at w1
  refine ⟨hok,?_,?_⟩
  · have hl:kaa (kii [x]) fuel 0=some (.inl ()):=by
      refine (ki5 (s0:=(0:Int)) (Q:=(·=Sum.inl ())) 1 (fun i s=>s=(i:Int)) (by omega) rfl (fun i s hi e=>?_) (fun s e=>?_)).eq
      · subst e
        obtain rfl:i=0:=by omega
        refine km0 (s:=1) ?_ rfl
        simp only [kii,Int.natCast_zero,show decide ((0:Int)<(([x]:List Va).length:Int))=true from rfl,show idx [x] 0=some x from rfl,qd,qa,h,bne_self_eq_false,qb]
        rfl
      · subst e
        exact klu (b := .inl ()) rfl rfl
    simp only [kie,kjx,hl,qa,qf,w1,kaw,k0l]
  · obtain ⟨k,hk⟩:=kag3
    have ht:kbm fuel x=some (mkB (kac x)):=by rw [hk];exact (ks6 hok (k+4) (k+4)).2.1
    simp only [kgv,c2,qa,bne_self_eq_false,qb,ht]
theorem k00 {s:BA} {o:S_api_Operator} (h:kbf s=some (o,true)):s∈opNames:=by
  refine Classical.byContradiction fun hn=>?_
  rw [(kv6 s hn).2] at h
  simp at h
theorem k2k:opNames.all (fun s=>decide (s.size≤100))=true:=by kernel_rfl
theorem kabz {l:La} {r:Ru} (hl:ValidL l) (hw:kru r) (h:ValidR l r):WrR r:=by
  have h16:=hl.sym16
  have h4:=hl.inputs
  have hs:=h.1
  rcases h.2 with q | q | q
  · exact ⟨⟨by omega,by omega⟩,⟨by have:=q.2.2.2.2.1;omega,by have:=q.2.2.2.2.1;omega⟩,by rw [q.2.2.2.1];simp,by rw [q.2.2.2.1];simp,by rw [q.2.2.1];exact qx _,fun h2=>by have:=q.1;omega⟩
  · exact ⟨⟨by omega,by omega⟩,by rw [q.2.1];exact ⟨by decide,by decide⟩,by rw [q.2.2.2.1];simp,by rw [q.2.2.2.1];simp,by rw [q.2.2.1];exact qx _,fun h2=>k5x hw.2 q.2.2.2.2.1⟩
  · obtain ⟨q1,q2,q3,o,q4,q5,q6,q7⟩:=q
    have hf:=ktw q4 rfl
    simp only at hf
    refine ⟨⟨by omega,by omega⟩,by rw [q2];exact ⟨by decide,by decide⟩,fun a ha=>?_,by omega,?_,fun h2=>by omega⟩
    · obtain ⟨i,hi,rfl⟩:=qs.1 ha
      have:=(q6 i hi).1
      exact ⟨by omega,by omega⟩
    · have:=q9 (qm.1 k2k _ (k00 q4))
      omega
theorem k1c {l:La} (hw:khu l) (hl:ValidL l):WrL l:=by
  refine ⟨by have:=hl.name.1;omega,by have:=hl.inputs;omega,fun t ht=>?_,by have:=hl.sym16;omega,fun x hx=>?_,hl.rules,fun r hr=>?_⟩
  · obtain ⟨i,hi,rfl⟩:=qs.1 ht
    have:=hl.typs i hi
    exact ⟨by have:=this.1;omega,by have:=this.2;omega⟩
  · obtain ⟨i,hi,rfl⟩:=qs.1 hx
    have h1:=(hl.names i hi).1
    have h2:=hl.types i hi
    exact ⟨by omega,by have:=h2.1;omega,by have:=h2.2;omega⟩
  · obtain ⟨i,hi,rfl⟩:=qs.1 hr
    exact kabz hl (hw.wide _ (qn hi)) (hl.valid i hi)
theorem kwd {l:La} (hw:khu l):∃ c,kdr l=some c∧kb5 l=some c∧(c=0↔ValidL l)∧(c=0→k2r l):=by
  obtain ⟨c,c1,c2,c3⟩:=k4u l hw
  obtain ⟨d,d1,d2⟩:=kabf hw hw.name hw.symbols hw.names hw.rules (fun r hr=>(hw.wide r hr).1)
  obtain rfl:d=c:=by rw [d1] at c2;exact qp c2
  exact ⟨d,c1,c2,d2,c3⟩
end Go.Proofs.YtaimpcnpifoidaaGreatDoor
