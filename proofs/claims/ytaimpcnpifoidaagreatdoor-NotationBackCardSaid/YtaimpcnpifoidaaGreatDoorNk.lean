import Derived.Test.YtaimpcnpifoidaaGreatDoorNr
set_option linter.unusedVariables false
set_option linter.unusedSimpArgs false
set_option maxRecDepth 100000
namespace Go.Proofs.YtaimpcnpifoidaaGreatDoor
open Go Go.RowKit
theorem khk {α β:Type} {f:α→Pr β} {p:Pr α} {l r:List UInt8} {b:β} (h:(p.bind f).run l=(some b,r)):∃ a m,p.run l=(some a,m)∧(f a).run m=(some b,r):=by
 rw [run_bind] at h
 cases hp:p.run l with
 | mk a m=>
  rw [hp] at h
  cases a with
  | none=>simp at h
  | some a=>exact ⟨a,m,rfl,h⟩
theorem kgk {α:Type} {k:Int→Pr α} {l r:List UInt8} {v:α} (h:(Pr.peek k).run l=(some v,r)):(l=[]∧(k 0).run []=(some v,r))∨∃ c m,l=c::m∧(k (c.toNat:Int)).run (c::m)=(some v,r):=by
 cases l with
 | nil=>exact .inl ⟨rfl,h⟩
 | cons c m=>exact .inr ⟨c,m,rfl,h⟩
theorem ke8 {α:Type} {p:Pr α} {c:UInt8} {m r:List UInt8} {v:α} (h:(Pr.adv p).run (c::m)=(some v,r)):p.run m=(some v,r):=h
theorem kc0 {α:Type} {a v:α} {l r:List UInt8} (h:(Pr.done a).run l=(some v,r)):v=a∧r=l:=by cases h;exact ⟨rfl,rfl⟩
theorem keb {α:Type} {v:α} {l r:List UInt8} (h:(Pr.fail:Pr α).run l=(some v,r)):False:=by cases h
theorem kto {r:List UInt8} {u:Unit}:∀ (w l:List UInt8),(∀ c∈w,c≠0)→(kbp (w.map fun c=>(c.toNat:Int))).run l=(some u,r)→l=w++r
 | [],l,_,h=>by obtain ⟨_,h⟩:=kc0 h;exact h.symm
 | x::w,l,hz,h=>by
  rw [qah,kbp] at h
  have hx:(x.toNat:Int)≠0:=fun e=>hz x (qo ..) (qa1.1 (by show x.toNat=0;omega))
  replace h:=kgk h
  rcases h with ⟨rfl,h⟩ | ⟨c,m,rfl,h⟩
  ·rw [if_neg (fun e=>hx e.symm)] at h;exact (keb h).elim
  ·by_cases hc:(c.toNat:Int)=(x.toNat:Int)
   ·rw [if_pos hc] at h
    obtain rfl:c=x:=qa1.1 (by omega)
    rw [kto w m (fun c hc=>hz c (qk _ hc)) (ke8 h)]
    rfl
   ·rw [if_neg hc] at h;exact (keb h).elim
theorem c34 {c:UInt8} (h:(c.toNat:Int)=34):c=34:=qa1.1 (by show c.toNat=34;omega)
theorem cEq {c d:UInt8} (h:(c.toNat:Int)=(d.toNat:Int)):c=d:=qa1.1 (by omega)
theorem kx1 {least:Nat} {v:List Int} {r:List UInt8}:∀ (k:Nat) (acc:List Int) (l:List UInt8),(kiy least k acc).run l=(some v,r) →
  ∃ bs:List UInt8,v=acc++bs.map (fun c=>(c.toNat:Int))∧l=bs.flatMap escB++34::r∧(∀ c∈bs,klb c=true)∧bs.length≤k∧least≤v.length
 | 0,acc,l,h=>by
  rw [kiy] at h
  replace h:=kgk h
  rcases h with ⟨rfl,h⟩ | ⟨c,m,rfl,h⟩
  ·rw [if_neg (by omega)] at h;exact (keb h).elim
  ·by_cases hc:(c.toNat:Int)=34∧least≤acc.length
   ·rw [if_pos hc] at h
    obtain ⟨rfl,rfl⟩:=kc0 (ke8 h)
    exact ⟨[],by simp,by rw [c34 hc.1];rfl,by simp,by simp,hc.2⟩
   ·rw [if_neg hc] at h;exact (keb h).elim
 | k+1,acc,l,h=>by
  rw [kiy] at h
  replace h:=kgk h
  rcases h with ⟨rfl,h⟩ | ⟨c,m,rfl,h⟩
  ·rw [if_neg (by omega),if_pos (by omega)] at h;exact (keb h).elim
  ·by_cases hc:(c.toNat:Int)=34∧least≤acc.length
   ·rw [if_pos hc] at h
    obtain ⟨rfl,rfl⟩:=kc0 (ke8 h)
    exact ⟨[],by simp,by rw [c34 hc.1];rfl,by simp,by simp,hc.2⟩
   rw [if_neg hc] at h
   by_cases hb:(c.toNat:Int)=34∨(c.toNat:Int)<32∨126<(c.toNat:Int)
   ·rw [if_pos hb] at h;exact (keb h).elim
   rw [if_neg hb] at h
   by_cases h92:(c.toNat:Int)=92
   ·rw [if_pos h92] at h
    replace h:=kgk (ke8 h)
    rcases h with ⟨rfl,h⟩ | ⟨d,m',rfl,h⟩
    ·rw [if_neg (by omega)] at h;exact (keb h).elim
    ·by_cases hd:(d.toNat:Int)=34∨(d.toNat:Int)=92
     ·rw [if_pos hd] at h
      obtain ⟨bs,h1,h2,h3,h4,h5⟩:=kx1 k _ _ (ke8 h)
      have hd':d=34∨d=92:=hd.imp c34 fun e=>cEq (d:=92) e
      refine ⟨d::bs,by rw [h1];simp,?_,fun x hx=>?_,by simp;omega,h5⟩
      ·rw [h2,show c=92 from cEq (d:=92) h92,qal,show escB d=[92,d] from by unfold escB;rw [if_pos hd']];rfl
      ·rcases q8.1 hx with rfl | hx
       ·unfold klb;simp;omega
       ·exact h3 x hx
     ·rw [if_neg hd] at h;exact (keb h).elim
   ·rw [if_neg h92] at h
    obtain ⟨bs,h1,h2,h3,h4,h5⟩:=kx1 k _ _ (ke8 h)
    have hp:klb c=true:=by unfold klb;simp;omega
    refine ⟨c::bs,by rw [h1];simp,?_,fun x hx=>?_,by simp;omega,h5⟩
    ·rw [h2,qal,show escB c=[c] from by
      unfold escB
      rw [if_neg (by rintro (e | e) <;> subst e <;> simp at hb h92),if_pos hp]]
     rfl
    ·rcases q8.1 hx with rfl | hx
     ·exact hp
     ·exact h3 x hx
theorem kt8 (bs:List UInt8):(toBA (bs.map fun c=>(c.toNat:Int))).data.toList=bs:=by
 have:=kup (mkB bs)
 rw [kct] at this
 rw [this,kct]
theorem k4t {least most:Nat} {v:List Int} {l r:List UInt8} (h:(kf2 least most).run l=(some v,r)):l=kex (toBA v).data.toList++r∧kzh least most (toBA v):=by
 unfold kf2 at h
 replace h:=kgk h
 rcases h with ⟨rfl,h⟩ | ⟨c,m,rfl,h⟩
 ·rw [if_neg (by omega)] at h;exact (keb h).elim
 ·by_cases hc:(c.toNat:Int)=34
  ·rw [if_pos hc] at h
   obtain ⟨bs,h1,h2,h3,h4,h5⟩:=kx1 _ _ _ (ke8 h)
   rw [List.nil_append] at h1
   subst h1
   rw [kt8]
   refine ⟨by rw [h2,c34 hc];simp [kex],?_,?_,?_⟩
   ·rw [ka4,kt8];simpa using h5
   ·rw [ka4,kt8];exact h4
   ·rw [kt8];exact h3
  ·rw [if_neg hc] at h;exact (keb h).elim
theorem kaan {m:Nat} (hm:0<m) {c:UInt8} (hc:dig c):decN (m*10+(c.toNat - 48))=decN m++[c]:=by
 unfold dig at hc
 rw [decN,dif_neg (by omega),show (m*10+(c.toNat - 48)) / 10=m by omega,show (m*10+(c.toNat - 48)) % 10=c.toNat - 48 by omega]
 congr 2
 apply qa1.1
 rw [kj1 (by omega)]
 omega
theorem kzv {v:Int} {r:List UInt8}:∀ (f:Nat) (n:Nat) (pre l:List UInt8),0<n→n≤1000000→decN n=pre→(kcy f (n:Int)).run l=(some v,r) →
  ∃ ds m:List UInt8,l=ds++r∧0<v∧v≤1000000∧decN v.toNat=pre++ds
 | 0,n,pre,l,h0,h1,hp,h=>by
  obtain ⟨rfl,rfl⟩:=kc0 h
  exact ⟨[],[],rfl,by omega,by omega,by simpa using hp⟩
 | f+1,n,pre,l,h0,h1,hp,h=>by
  rw [kcy,if_neg (by omega)] at h
  replace h:=kgk h
  rcases h with ⟨rfl,h⟩ | ⟨c,m,rfl,h⟩
  ·rw [if_neg (by omega)] at h
   obtain ⟨rfl,rfl⟩:=kc0 h
   exact ⟨[],[],rfl,by omega,by omega,by simpa using hp⟩
  ·by_cases hc:48≤(c.toNat:Int)∧(c.toNat:Int)≤57∧(n:Int)*10+((c.toNat:Int) - 48)≤1000000
   ·rw [if_pos hc] at h
    have e:(n:Int)*10+((c.toNat:Int) - 48)=((n*10+(c.toNat - 48):Nat):Int):=by omega
    rw [e] at h
    obtain ⟨ds,_,h2,h3,h4,h5⟩:=kzv f (n*10+(c.toNat - 48)) (pre++[c]) m (by omega) (by omega) (by rw [kaan h0 ⟨hc.1,hc.2.1⟩,hp]) (ke8 h)
    exact ⟨c::ds,[],by rw [h2];rfl,h3,h4,by rw [h5];simp⟩
   ·rw [if_neg hc] at h
    obtain ⟨rfl,rfl⟩:=kc0 h
    exact ⟨[],[],rfl,by omega,by omega,by simpa using hp⟩
theorem k6i {neg:Bool} {v:Int} {l r:List UInt8} (h:(unsP neg).run l=(some v,r)):∃ n:Nat,n≤1000000∧v=(if neg=true then -(n:Int) else (n:Int))∧(neg=true→0<n)∧l=decN n++r:=by
 unfold unsP at h
 replace h:=kgk h
 rcases h with ⟨rfl,h⟩ | ⟨c,m,rfl,h⟩
 ·rw [if_pos (by omega)] at h;exact (keb h).elim
 ·by_cases hc:(c.toNat:Int)<48∨57<(c.toNat:Int)∨(neg=true∧(c.toNat:Int)=48)
  ·rw [if_pos hc] at h;exact (keb h).elim
  rw [if_neg hc] at h
  obtain ⟨a,m',h1,h2⟩:=khk (ke8 h)
  obtain ⟨rfl,rfl⟩:=kc0 h2
  have e1:decN (c.toNat - 48)=[c]:=by
   rw [decN,dif_pos (by omega)]
   congr 1
   apply qa1.1
   rw [kj1 (by omega)]
   omega
  by_cases h48:(c.toNat:Int)=48
  ·have hn:neg=false:=by cases neg with
    | false=>rfl
    | true=>exact absurd (.inr (.inr ⟨rfl,h48⟩)) hc
   subst hn
   have:((c.toNat:Int) - 48)=0:=by omega
   rw [this,kcy,if_pos (by omega)] at h1
   obtain ⟨rfl,rfl⟩:=kc0 h1
   refine ⟨0,by omega,rfl,fun e=>(by cases e),?_⟩
   rw [show (0:Nat)=c.toNat - 48 by omega,e1];rfl
  ·have e:((c.toNat:Int) - 48)=((c.toNat - 48:Nat):Int):=by omega
   rw [e] at h1
   obtain ⟨ds,_,h2,h3,h4,h5⟩:=kzv 7 (c.toNat - 48) [c] m (by omega) (by omega) e1 h1
   refine ⟨a.toNat,by omega,by rw [show ((a.toNat:Nat):Int)=a by omega],fun _=>by omega,?_⟩
   rw [h5,h2];rfl
theorem kai8 {v:Int} {l r:List UInt8} (h:numP.run l=(some v,r)):l=kb7 v++r ∧ -1000000≤v∧v≤1000000:=by
 unfold numP at h
 have key:(unsP false).run l=(some v,r)→l=kb7 v++r ∧ -1000000≤v∧v≤1000000:=fun h=>by
  obtain ⟨n,h1,h2,_,h3⟩:=k6i h
  simp only [qax,if_false] at h2
  subst h2
  refine ⟨?_,by omega,by omega⟩
  unfold kb7
  rw [if_neg (by omega),h3];simp
 replace h:=kgk h
 rcases h with ⟨rfl,h⟩ | ⟨c,m,rfl,h⟩
 ·rw [if_neg (by omega)] at h;exact key h
 ·by_cases hc:(c.toNat:Int)=45
  ·rw [if_pos hc] at h
   obtain ⟨n,h1,h2,h4,h3⟩:=k6i (ke8 h)
   simp only [if_true] at h2
   have:=h4 rfl
   subst h2
   refine ⟨?_,by omega,by omega⟩
   unfold kb7
   rw [if_pos (by omega),h3,show c=45 from cEq (d:=45) hc];simp
  ·rw [if_neg hc] at h;exact key h
theorem kxs {α:Type} {e:UInt8} (he:e≠0) {least:Nat} {elem:List α→Pr α} {sh:α→List UInt8} {P:α→Prop} {I:List α→Prop}
  (hel:∀ acc l v r,I acc→(elem acc).run l=(some v,r)→l=sh v++r∧P v∧I (acc++[v])) {v:List α} {r:List UInt8}:∀ (k:Nat) (acc:List α) (l:List UInt8),I acc→(kbo (e.toNat:Int) least elem k acc).run l=(some v,r) →
  ∃ vs,v=acc++vs∧l=(if acc.length=0 then kba (vs.map sh) else kff sh vs)++e::r∧(∀ x∈vs,P x)∧I v∧vs.length≤k∧least≤v.length:=by
 have he0:(e.toNat:Int)≠0:=fun h=>he (qa1.1 (by show e.toNat=0;omega))
 intro k
 induction k with
 | zero=>
  intro acc l hI h
  rw [kbo] at h
  replace h:=kgk h
  rcases h with ⟨rfl,h⟩ | ⟨c,m,rfl,h⟩
  ·rw [if_neg (fun h=>he0 h.1.symm)] at h;exact (keb h).elim
  ·by_cases hc:(c.toNat:Int)=(e.toNat:Int)∧least≤acc.length
   ·rw [if_pos hc] at h
    obtain ⟨rfl,rfl⟩:=kc0 (ke8 h)
    exact ⟨[],by simp,by rw [cEq hc.1];simp [kba,kff],by simp,hI,by simp,hc.2⟩
   ·rw [if_neg hc] at h;exact (keb h).elim
 | succ k ih=>
  intro acc l hI h
  rw [kbo] at h
  have key:∀ l,((if acc.length=0 then Pr.done () else kbp [44,32]).bind fun _=>(elem acc).bind fun v=>kbo (e.toNat:Int) least elem k (acc++[v])).run l=(some v,r) →
    ∃ vs,v=acc++vs∧l=(if acc.length=0 then kba (vs.map sh) else kff sh vs)++e::r∧(∀ x∈vs,P x)∧I v∧vs.length≤k+1∧least≤v.length:=fun l h=>by
   obtain ⟨u,m,h1,h2⟩:=khk h
   obtain ⟨x,m',h3,h4⟩:=khk h2
   obtain ⟨q1,q2,q3⟩:=hel acc m x m' hI h3
   obtain ⟨vs,p1,p2,p3,p4,p5,p6⟩:=ih (acc++[x]) m' q3 h4
   rw [if_neg (by simp)] at p2
   refine ⟨x::vs,by rw [p1];simp,?_,fun y hy=>?_,p4,by simp;omega,p6⟩
   ·by_cases ha:acc.length=0
    ·rw [if_pos ha] at h1 ⊢
     obtain ⟨_,rfl⟩:=kc0 h1
     rw [kky,q1,p2]
     simp
    ·rw [if_neg ha] at h1 ⊢
     have:=kto [44,32] l (by decide) h1
     rw [this,q1,p2]
     simp [kff]
   ·rcases q8.1 hy with rfl | hy
    ·exact q2
    ·exact p3 y hy
  replace h:=kgk h
  rcases h with ⟨rfl,h⟩ | ⟨c,m,rfl,h⟩
  ·rw [if_neg (fun h=>he0 h.1.symm)] at h;exact key [] h
  ·by_cases hc:(c.toNat:Int)=(e.toNat:Int)∧least≤acc.length
   ·rw [if_pos hc] at h
    obtain ⟨rfl,rfl⟩:=kc0 (ke8 h)
    exact ⟨[],by simp,by rw [cEq hc.1];simp [kba,kff],by simp,hI,by simp,hc.2⟩
   ·rw [if_neg hc] at h;exact key _ h
theorem kub {v:Va} {l r:List UInt8} (h:intE.run l=(some v,r)):l=kac v++r∧kns v:=by
 unfold intE at h
 obtain ⟨n,m,h1,h2⟩:=khk h
 obtain ⟨rfl,rfl⟩:=kc0 h2
 obtain ⟨h3,h4,h5⟩:=kai8 h1
 exact ⟨by rw [h3];simp [kac],n,rfl,h4,h5⟩
theorem krw {v:Va} {l r:List UInt8} (h:textE.run l=(some v,r)):l=kac v++r∧ko0 v:=by
 unfold textE at h
 obtain ⟨n,m,h1,h2⟩:=khk h
 obtain ⟨rfl,rfl⟩:=kc0 h2
 obtain ⟨h3,h4⟩:=k4t h1
 exact ⟨by rw [h3];simp [kac],_,rfl,h4⟩
theorem k1n {least most:Nat} {v:List Va} {l r:List UInt8} (h:(kbo 125 least (fun _=>textE) most []).run l=(some v,r)):l=kba (kju v)++125::r∧least≤v.length∧v.length≤most∧∀ x∈v,ko0 x:=by
 obtain ⟨vs,h1,h2,h3,_,h5,h6⟩:=kxs (e:=125) (by decide) (sh:=kac) (P:=ko0) (I:=fun _=>True) (fun acc l v r _ h=>⟨(krw h).1,(krw h).2,trivial⟩) most [] l trivial h
 rw [List.nil_append] at h1
 subst h1
 exact ⟨by rw [h2,kjy];simp,h6,h5,h3⟩
def k88 (acc:List Va):Prop:=∃ m,1≤m∧m≤8∧∀ x∈acc,kty m m x
theorem kaga {acc:List Va} {v:Va} {l r:List UInt8} (hI:k88 acc) (h:(rowE acc).run l=(some v,r)):l=kac v++r∧True∧k88 (acc++[v]):=by
 unfold rowE at h
 replace h:=kgk h
 rcases h with ⟨rfl,h⟩ | ⟨c,m,rfl,h⟩
 ·rw [if_neg (by omega)] at h;exact (keb h).elim
 ·by_cases hc:(c.toNat:Int)=123
  ·rw [if_pos hc] at h
   obtain ⟨q,m',h1,h2⟩:=khk (ke8 h)
   obtain ⟨rfl,rfl⟩:=kc0 h2
   obtain ⟨h3,h4,h5,h6⟩:=k1n h1
   refine ⟨by rw [h3,kpv,show c=123 from cEq (d:=123) hc];simp,trivial,?_⟩
   cases acc with
   | nil=>exact ⟨q.length,h4,h5,fun x hx=>by simp at hx;subst hx;exact ⟨q,rfl,qw _,qw _,h6⟩⟩
   | cons r0 acc=>
    obtain ⟨n,i1,i2,i3⟩:=hI
    obtain ⟨l0,e0,e1,e2,e3⟩:=i3 r0 (qo ..)
    have hlen:r0.items.length=n:=by rw [e0];show l0.length=n;omega
    simp only [hlen] at h4 h5
    refine ⟨n,i1,i2,fun x hx=>?_⟩
    rcases qam.1 hx with hx | hx
    ·exact i3 x hx
    ·simp at hx;subst hx;exact ⟨q,rfl,h4,h5,h6⟩
  ·rw [if_neg hc] at h;exact (keb h).elim
theorem k6o {c:UInt8} (h:¬ hexV (c.toNat:Int)<0):0≤hexV (c.toNat:Int)∧hexV (c.toNat:Int)<16∧hexD (hexV (c.toNat:Int)).toNat=c:=by
 have hv:hexV (c.toNat:Int)=(c.toNat:Int) - 48∧48≤(c.toNat:Int)∧(c.toNat:Int)≤57∨hexV (c.toNat:Int)=(c.toNat:Int) - 87∧97≤(c.toNat:Int)∧(c.toNat:Int)≤102:=by
  unfold hexV at h ⊢
  by_cases h1:48≤(c.toNat:Int)∧(c.toNat:Int)≤57
  ·exact .inl ⟨by rw [if_pos h1],h1⟩
  ·rw [if_neg h1] at h ⊢
   by_cases h2:97≤(c.toNat:Int)∧(c.toNat:Int)≤102
   ·exact .inr ⟨by rw [if_pos h2],h2⟩
   ·rw [if_neg h2] at h;omega
 rcases hv with ⟨h1,h2,h3⟩ | ⟨h1,h2,h3⟩
 ·refine ⟨by omega,by omega,qa1.1 ?_⟩
  have:=kxw (n:=(hexV (c.toNat:Int)).toNat) (by omega)
  rw [if_pos (by omega)] at this
  omega
 ·refine ⟨by omega,by omega,qa1.1 ?_⟩
  have:=kxw (n:=(hexV (c.toNat:Int)).toNat) (by omega)
  rw [if_neg (by omega)] at this
  omega
theorem kaf4 {n:Int} {l r:List UInt8} (h:bitsP.run l=(some n,r)):l=hexD (n.toNat / 16)::hexD (n.toNat % 16)::r∧0≤n∧n≤255:=by
 unfold bitsP at h
 have z:hexV 0<0:=by decide
 replace h:=kgk h
 rcases h with ⟨rfl,h⟩ | ⟨a,m,rfl,h⟩
 ·rw [if_pos z] at h;exact (keb h).elim
 by_cases ha:hexV (a.toNat:Int)<0
 ·rw [if_pos ha] at h;exact (keb h).elim
 rw [if_neg ha] at h
 replace h:=kgk (ke8 h)
 rcases h with ⟨rfl,h⟩ | ⟨b,m',rfl,h⟩
 ·rw [if_pos z] at h;exact (keb h).elim
 by_cases hb:hexV (b.toNat:Int)<0
 ·rw [if_pos hb] at h;exact (keb h).elim
 rw [if_neg hb] at h
 obtain ⟨rfl,rfl⟩:=kc0 (ke8 h)
 obtain ⟨a1,a2,a3⟩:=k6o ha
 obtain ⟨b1,b2,b3⟩:=k6o hb
 refine ⟨?_,by omega,by omega⟩
 have e1:(hexV (a.toNat:Int)*16+hexV (b.toNat:Int)).toNat / 16=(hexV (a.toNat:Int)).toNat:=by omega
 have e2:(hexV (a.toNat:Int)*16+hexV (b.toNat:Int)).toNat % 16=(hexV (b.toNat:Int)).toNat:=by omega
 rw [e1,e2,a3,b3]
theorem k0m {v:Va} {l r:List UInt8} (h:oneP.run l=(some v,r)):l=kac v++r∧kgh v:=by
 unfold oneP at h
 have ki:∀ l,intE.run l=(some v,r)→l=kac v++r∧kgh v:=fun l h=>⟨(kub h).1, .inr (.inl (kub h).2)⟩
 replace h:=kgk h
 rcases h with ⟨rfl,h⟩ | ⟨c,m,rfl,h⟩
 ·exact ki [] h
 by_cases c1:(c.toNat:Int)=116
 ·rw [if_pos c1] at h
  obtain ⟨u,m',h1,h2⟩:=khk h
  obtain ⟨rfl,rfl⟩:=kc0 h2
  exact ⟨by rw [kto [116,114,117,101] _ (by decide) h1];simp [kac], .inl (.inr rfl)⟩
 rw [if_neg c1] at h
 by_cases c2:(c.toNat:Int)=102
 ·rw [if_pos c2] at h
  obtain ⟨u,m',h1,h2⟩:=khk h
  obtain ⟨rfl,rfl⟩:=kc0 h2
  exact ⟨by rw [kto [102,97,108,115,101] _ (by decide) h1];simp [kac], .inl (.inl rfl)⟩
 rw [if_neg c2] at h
 by_cases c3:(c.toNat:Int)=34
 ·rw [if_pos c3] at h
  exact ⟨(krw h).1, .inr (.inr (.inr (.inl (krw h).2)))⟩
 rw [if_neg c3] at h
 by_cases c4:(c.toNat:Int)=114
 ·rw [if_pos c4] at h
  obtain ⟨u,m',h1,h2⟩:=khk (ke8 h)
  obtain ⟨rfl,rfl⟩:=kc0 h2
  obtain ⟨h3,h4⟩:=k4t h1
  exact ⟨by rw [h3,show c=114 from cEq (d:=114) c4];simp [kac], .inr (.inr (.inr (.inr (.inl ⟨_,rfl,h4⟩))))⟩
 rw [if_neg c4] at h
 by_cases c5:(c.toNat:Int)=91
 ·rw [if_pos c5] at h
  obtain ⟨u,m',h1,h2⟩:=khk (ke8 h)
  obtain ⟨rfl,rfl⟩:=kc0 h2
  obtain ⟨vs,p1,p2,p3,_,p5,p6⟩:=kxs (e:=93) (by decide) (sh:=kac) (P:=kns) (I:=fun _=>True) (fun acc l v r _ h=>⟨(kub h).1,(kub h).2,trivial⟩) 16 [] m trivial h1
  rw [List.nil_append] at p1
  subst p1
  exact ⟨by rw [p2,show c=91 from cEq (d:=91) c5];simp [kac,kjy], .inr (.inr (.inr (.inr (.inr (.inl ⟨_,rfl,p5,p3⟩)))))⟩
 rw [if_neg c5] at h
 by_cases c6:(c.toNat:Int)=123
 ·rw [if_pos c6] at h
  obtain ⟨u,m',h1,h2⟩:=khk (ke8 h)
  obtain ⟨rfl,rfl⟩:=kc0 h2
  obtain ⟨h3,h4,h5,h6⟩:=k1n h1
  exact ⟨by rw [h3,kpv,show c=123 from cEq (d:=123) c6];simp, .inr (.inr (.inr (.inr (.inr (.inr (.inl ⟨_,rfl,h4,h5,h6⟩))))))⟩
 rw [if_neg c6] at h
 by_cases c7:(c.toNat:Int)=60
 ·rw [if_pos c7] at h
  obtain ⟨u,m',h1,h2⟩:=khk (ke8 h)
  obtain ⟨rfl,rfl⟩:=kc0 h2
  obtain ⟨vs,p1,p2,p3,⟨k,k1,k2,k3⟩,p5,p6⟩:=kxs (e:=62) (by decide) (sh:=kac) (P:=fun _=>True) (I:=k88) (fun acc l v r hI h=>kaga hI h) 8 [] m ⟨1,by omega,by omega,by simp⟩ h1
  rw [List.nil_append] at p1
  subst p1
  exact ⟨by rw [p2,show c=60 from cEq (d:=60) c7];simp [kac,kjy], .inr (.inr (.inr (.inr (.inr (.inr (.inr ⟨_,rfl,p5,k,k1,k2,k3⟩))))))⟩
 rw [if_neg c7] at h
 by_cases c8:(c.toNat:Int)=48
 ·rw [if_pos c8] at h
  replace h:=kgk (ke8 h)
  rcases h with ⟨rfl,h⟩ | ⟨d,m',rfl,h⟩
  ·rw [if_neg (by omega)] at h
   obtain ⟨rfl,rfl⟩:=kc0 h
   exact ⟨by rw [show c=48 from cEq (d:=48) c8];simp [kac,kb7,decN], .inr (.inl ⟨0,rfl,by omega,by omega⟩)⟩
  ·by_cases hd:(d.toNat:Int)=120
   ·rw [if_pos hd] at h
    obtain ⟨n,m2,h1,h2⟩:=khk (ke8 h)
    obtain ⟨rfl,rfl⟩:=kc0 h2
    obtain ⟨h3,h4,h5⟩:=kaf4 h1
    exact ⟨by rw [h3,show c=48 from cEq (d:=48) c8,show d=120 from cEq (d:=120) hd];simp [kac], .inr (.inr (.inl ⟨n,rfl,h4,h5⟩))⟩
   ·rw [if_neg hd] at h
    obtain ⟨rfl,rfl⟩:=kc0 h
    exact ⟨by rw [show c=48 from cEq (d:=48) c8];simp [kac,kb7,decN], .inr (.inl ⟨0,rfl,by omega,by omega⟩)⟩
 ·rw [if_neg c8] at h
  exact ki _ h
end Go.Proofs.YtaimpcnpifoidaaGreatDoor
