import Derived.Test.YtaimpcnpifoidaaGreatDoorNj
set_option linter.unusedVariables false
set_option linter.unusedSimpArgs false
set_option maxRecDepth 100000
namespace Go.Proofs.YtaimpcnpifoidaaGreatDoor
open Go Go.RowKit
def wc (c:UInt8):Bool:=decide (letC c) || decide (digC c)
def wdL:List UInt8→List UInt8
 | []=>[]
 | c::t=>if letC c then (c::t).takeWhile wc else []
def litM (r:List UInt8):(Va×List UInt8) ⊕ List UInt8:=match oneP.run r with
 | (some v,m) => .inl (v,m)
 | (none,m)=>if r.head?=some 48 then .inl (Va.mk 2 0 ⟨#[]⟩ [],r.tail) else .inr m
def kwy:List UInt8:=[116,114,117,101]
def ktf:List UInt8:=[102,97,108,115,101]
def litW (w r:List UInt8):Prop:=w=[]∨w=kwy∨w=ktf∨(w=[114]∧r.tail.head?=some 34)
instance (w r:List UInt8):Decidable (litW w r):=by unfold litW;infer_instance
def kic:List UInt8→List UInt8→List UInt8 ⊕ List UInt8
 | [],r => .inl r
 | _::_,[] => .inr []
 | c::t,d::r=>if d=c then kic t r else .inr (d::r)
def sepW (k:Nat):List UInt8:=if k=0 then [40] else [44,32]
def argL (f:List UInt8→(Ex×List UInt8) ⊕ List UInt8):Nat→Nat→List Ex→List UInt8→(List Ex×List UInt8) ⊕ List UInt8
 | 0,_,acc,r => .inl (acc,r)
 | left+1,k,acc,r=>match kic (sepW k) r with
  | .inr m => .inr m
  | .inl m=>match f m with
   | .inr q => .inr q
   | .inl (x,q)=>argL f left (k+1) (acc++[x]) q
def opM (w:List UInt8):Option Nat:=match kbf (mkB w) with
 | some (o,true)=>some o.f_Args.length
 | _=>none
def exM:Nat→List UInt8→(Ex×List UInt8) ⊕ List UInt8
 | 0,r => .inr r
 | n+1,r=>if litW (wdL r) r then (match litM r with
   | .inl (v,m) => .inl (Ex.mk 2 0 v ⟨#[]⟩ [],m)
   | .inr m => .inr m)
  else match inpL (wdL r) with
   | some k => .inl (Ex.mk 1 (k:Int) kda ⟨#[]⟩ [],r.drop (wdL r).length)
   | none=>match opM (wdL r) with
    | some c=>(match argL (exM n) c 0 [] (r.drop (wdL r).length) with
     | .inr m => .inr m
     | .inl (acc,m)=>match kic [41] m with
      | .inl q => .inl (Ex.mk 3 0 kda (mkB (wdL r)) acc,q)
      | .inr q => .inr q)
    | none => .inr r
theorem kxz {s r:List UInt8} (h:r <:+ s):s.drop (s.length - r.length)=r:=(List.suffix_iff_eq_drop.1 h).symm
theorem kmb {s r:List UInt8} (h:r <:+ s):r.length≤s.length:=List.IsSuffix.length_le h
def pos (s r:List UInt8):Int:=((s.length - r.length:Nat):Int)
theorem k0o {s t:List UInt8} {c:UInt8} (h:(c::t) <:+ s):byt (mkB s) (pos s (c::t))=some (c.toNat:Int):=by
 have hl:=kmb h
 have hd:=kxz h
 simp only [qq] at hl
 unfold pos
 have hi:s.length - (t.length+1)<s.length:=by omega
 rw [qq] at hd ⊢
 rw [k30 (by rw [kct];exact hi)]
 congr 2
 simp only [kct]
 rw [qv hi] at hd
 rw [(List.cons.inj hd).1]
theorem kaa3 {s r:List UInt8} (h:r <:+ s):decide (pos s r<((mkB s).size:Int))=decide (r≠[]):=by
 have hl:=kmb h
 rw [kcr]
 unfold pos
 cases r with
 | nil=>rw [qc (by simp),qc (by simp)]
 | cons c t=>rw [qe (by simp only [qq] at hl ⊢; omega),qe (by simp)]
theorem kaax {s r:List UInt8} (h:r <:+ s):decide (((mkB s).size:Int)≤pos s r)=decide (r=[]):=by
 have hl:=kmb h
 rw [kcr]
 unfold pos
 cases r with
 | nil=>rw [qe (by simp),qe (by simp)]
 | cons c t=>rw [qc (by simp only [qq] at hl ⊢; omega),qc (by simp)]
theorem k6y {s r:List UInt8} (h:r <:+ s):cutS (mkB s) (pos s r) ((mkB s).size:Int)=some (mkB r):=by
 have e:(mkB s).data.toList=s.take (s.length - r.length)++r:=by
  rw [kct]
  conv=>lhs;rw [← qa5 (s.length - r.length) s,kxz h]
 have:=kaek e
 rw [qai,Nat.min_eq_left (by omega)] at this
 exact this
theorem k7r {s a m:List UInt8} (h:(a++m) <:+ s):pos s m=pos s (a++m)+(a.length:Int):=by
 have:=kmb h
 rw [ql] at this
 unfold pos
 rw [ql]
 omega
theorem k7k {s a m:List UInt8} (h:(a++m) <:+ s):m <:+ s:=(List.suffix_append a m).trans h
theorem kai5 {s a m:List UInt8} (h:(a++m) <:+ s):cutS (mkB s) (pos s (a++m)) (pos s m)=some (mkB a):=by
 have hl:=kmb h
 have hd:=kxz h
 rw [ql] at hl
 rw [k7r h]
 unfold pos
 have:=kvk (s:=mkB s) (i:=s.length - (a++m).length) (w:=a.length) (by rw [kcr,ql];omega)
 rw [kct,hd,List.take_left] at this
 rw [← this]
 congr 1
theorem k0u {s a m:List UInt8} (hs:s.length≤4000000) (h:(a++m) <:+ s):w64 (pos s (a++m)+(a.length:Int))=pos s m:=by
 rw [← k7r h]
 unfold pos
 rw [kei (by omega) (by omega)]
theorem kwi {s t:List UInt8} {c:UInt8} (hs:s.length≤4000000) (h:(c::t) <:+ s):w64 (pos s (c::t)+1)=pos s t:=k0u (a:=[c]) hs h
theorem k40 {s t:List UInt8} {c:UInt8} (h:(c::t) <:+ s):t <:+ s:=k7k (a:=[c]) h
theorem kab9 (p:UInt8→Bool) (r:List UInt8):r.takeWhile p++r.drop (r.takeWhile p).length=r:=by
 have h:=List.takeWhile_append_dropWhile (p:=p) (l:=r)
 have e:r.drop (r.takeWhile p).length=r.dropWhile p:=by
  conv=>lhs;rw [← h]
  rw [List.drop_append_of_le_length (by rw [h];exact qw _)]
  simp
 rw [e];exact h
theorem kvs (r:List UInt8):wdL r++r.drop (wdL r).length=r:=by
 cases r with
 | nil=>rfl
 | cons c t=>
  rw [wdL]
  by_cases h:letC c
  ·rw [if_pos h];exact kab9 wc _
  ·rw [if_neg h];rfl
theorem k9i {s r0:List UInt8} (hs:s.length≤4000000) (h0:r0 <:+ s) {step:Int→Option (Int ⊕ Int)}
  (hstep:∀ r,r <:+ s→step (pos s r)=some (match r with | [] => .inr (pos s r) | c::t=>if wc c=true then .inl (pos s t) else .inr (pos s r))):
  kaa step fuel (pos s r0)=some (pos s (r0.drop (r0.takeWhile wc).length)):=by
 have key:∀ (r:List UInt8) (n:Nat),r <:+ s→r.length<n→kaa step n (pos s r)=some (pos s (r.drop (r.takeWhile wc).length)):=by
  intro r
  induction r with
  | nil=>
   intro n h hn
   obtain ⟨n,rfl⟩:∃ j,n=j+1:=⟨n - 1,by omega⟩
   rw [kdi (hstep [] h)];rfl
  | cons c t ih=>
   intro n h hn
   obtain ⟨n,rfl⟩:∃ j,n=j+1:=⟨n - 1,by omega⟩
   have hs:=hstep (c::t) h
   simp only at hs
   by_cases hw:wc c=true
   ·rw [if_pos hw] at hs
    rw [kih hs,ih n (k40 h) (by simp only [qq] at hn;omega),List.takeWhile_cons,if_pos hw]
    rfl
   ·rw [if_neg hw] at hs
    rw [kdi hs,List.takeWhile_cons,if_neg hw]
    rfl
 exact key r0 fuel h0 (by have:=kmb h0;exact kbg (by omega))
theorem kaj7 {s r:List UInt8} (hs:s.length≤4000000) (h:r <:+ s):kf9 ⟨mkB s,pos s r⟩=some (mkB (r.takeWhile wc)):=by
 unfold kf9
 rw [k9i hs h (step:=kgs ⟨mkB s,pos s r⟩) (fun q hq=>?_),qa]
 ·have e:=kab9 wc r
  have h2:(r.takeWhile wc++r.drop (r.takeWhile wc).length) <:+ s:=by rw [e];exact h
  have:=kai5 h2
  rw [e] at this
  rw [this];rfl
 ·unfold kgs
  rw [kaa3 hq]
  cases q with
  | nil=>rfl
  | cons c t=>
   rw [qe (by simp),qd,k0o hq]
   simp only [qa,k13,kad3,kwi hs hq]
   unfold wc
   by_cases h1:letC c
   ·rw [qe h1];rfl
   ·rw [qc h1]
    by_cases h2:digC c
    ·rw [qe h2];rfl
    ·rw [qc h2];rfl
def muR (s:List UInt8):List UInt8 ⊕ List UInt8→Int ⊕ (Int×Int)
 | .inl r => .inl (pos s r)
 | .inr r => .inr (pos s r,pos s r)
theorem ktp:∀ (t r:List UInt8),match kic t r with
  | .inl m=>r=t++m
  | .inr m=>m <:+ r
 | [],r=>rfl
 | _::_,[]=>List.suffix_refl _
 | c::t,d::r=>by
  rw [kic]
  by_cases h:d=c
  ·rw [if_pos h]
   have:=ktp t r
   cases hm:kic t r with
   | inl m=>rw [hm] at this;simp only at this ⊢; rw [h,this];rfl
   | inr m=>rw [hm] at this;exact this.trans (List.suffix_cons d r)
  ·rw [if_neg h];exact List.suffix_refl _
theorem kacb {s r t:List UInt8} (hs:s.length≤4000000) (ht:t.length≤100) (h:r <:+ s):ke4 ⟨mkB s,pos s r⟩ (⟨t.toArray⟩:BA)=some (muR s (kic t r)):=by
 have hts:((⟨t.toArray⟩:BA)).size=t.length:=by show (mkB t).size=_;rw [kcr]
 unfold ke4
 have main:Ev (kaa (kfd ⟨mkB s,pos s r⟩ (⟨t.toArray⟩:BA)) fuel (0,pos s r)) (·=muR s (kic t r)):=by
  refine ki5 t.length (fun k v=>∃ q,q <:+ s∧v=((k:Int),pos s q)∧kic t r=kic (t.drop k) q) (by omega) ⟨r,h,rfl,by rw [qar]⟩ (fun k v hk ⟨q,hq,e,hI⟩=>?_) fun v ⟨q,hq,e,hI⟩=>?_
  ·subst e
   have hb:byt (⟨t.toArray⟩:BA) (k:Int)=some ((t[k]).toNat:Int):=k30 (s:=⟨t.toArray⟩) (i:=k) hk
   have hd:=qv hk
   unfold kfd
   rw [hts]
   simp only [kbb hk,qd,kaax hq]
   cases q with
   | nil=>
    rw [qe rfl]
    refine kow (b := .inr (pos s [],pos s [])) rfl ?_
    rw [hI,hd];rfl
   | cons c m=>
    rw [qc (by simp),qb,k0o hq,hb]
    simp only [qa]
    by_cases hc:c=t[k]
    ·rw [show ((c.toNat:Int) != (t[k].toNat:Int))=false by rw [hc];exact bne_self_eq_false _,qb,kwi hs hq,w64s k (by omega)]
     refine km0 (s:=(((k+1:Nat):Int),pos s m)) rfl ⟨m,k40 hq,rfl,?_⟩
     rw [hI,hd,kic,if_pos hc]
    ·rw [show ((c.toNat:Int) != (t[k].toNat:Int))=true by rw [qas];intro e;exact hc (cEq e),qd]
     refine kow (b := .inr (pos s (c::m),pos s (c::m))) rfl ?_
     rw [hI,hd,kic,if_neg hc];rfl
  ·subst e
   refine klu (b := .inl (pos s q)) ?_ (by rw [hI,List.drop_length];rfl)
   unfold kfd
   rw [hts]
   simp only [kez,qb]
 rw [main.eq,qa]
 cases kic t r <;> rfl
theorem k50 {f:Nat}:∀ {n:Int} {l:List UInt8},∃ v m,(kcy f n).run l=(some v,m):=by
 induction f with
 | zero=>intro n l;exact ⟨n,l,rfl⟩
 | succ f ih=>
  intro n l
  rw [kcy]
  split
  ·exact ⟨n,l,rfl⟩
  ·show ∃ v m,Pr.run (if 48≤hd l∧hd l≤57∧n*10+(hd l - 48)≤1000000 then .adv (kcy f (n*10+(hd l - 48))) else .done n) l=(some v,m)
   split
   ·exact ih
   ·exact ⟨n,l,rfl⟩
theorem k4w {neg:Bool} {c:UInt8} {l:List UInt8} (h:dig c) (h2:neg=true→c≠48):∃ v m,(unsP neg).run (c::l)=(some v,m):=by
 unfold unsP
 show ∃ v m,Pr.run (if (c.toNat:Int)<48∨57<(c.toNat:Int)∨(neg=true∧(c.toNat:Int)=48) then .fail else _) (c::l)=(some v,m)
 unfold dig at h
 rw [if_neg (by rintro (h3 | h3 | ⟨h3,h4⟩) <;> first | omega | exact h2 h3 (cEq (d:=48) h4))]
 show ∃ v m,Pr.run (Pr.bind (kcy 7 ((c.toNat:Int) - 48)) _) l=(some v,m)
 rw [run_bind]
 obtain ⟨v,m,e⟩:=k50 (f:=7) (n:=(c.toNat:Int) - 48) (l:=l)
 rw [e]
 exact ⟨_,_,rfl⟩
theorem kacd {v:Va} {m m':List UInt8} (hv:kgh v) (h:oneP.run (kac v++m)=(none,m')):v=Va.mk 2 0 ⟨#[]⟩ []∧hd m=120:=by
 by_cases hi:kns v
 ·obtain ⟨n,rfl,n1,n2⟩:=hi
  have e:kac (Va.mk 2 n ⟨#[]⟩ [])=kb7 n:=by simp [kac]
  rw [e] at h
  obtain ⟨d,ds,hd1,hd2,_,hd4,_⟩:=kst n.natAbs
  have hd48:=hd2 d (qo ..)
  have pk:∀ (c:UInt8) (l:List UInt8),oneP.run (c::l)=((fun c:Int=>(if c=116 then (kbp [116,114,117,101]).bind fun _ => .done (Va.mk 1 1 ⟨#[]⟩ [])
 else if c=102 then (kbp [102,97,108,115,101]).bind fun _ => .done (Va.mk 1 0 ⟨#[]⟩ [])
 else if c=34 then textE
 else if c=114 then .adv ((kf2 1 40).bind fun s => .done (Va.mk 8 0 (toBA s) []))
 else if c=91 then .adv ((kbo 93 0 (fun _=>intE) 16 []).bind fun l => .done (Va.mk 5 0 ⟨#[]⟩ l))
 else if c=123 then .adv ((kbo 125 0 (fun _=>textE) 16 []).bind fun l => .done (Va.mk 6 0 ⟨#[]⟩ l))
 else if c=60 then .adv ((kbo 62 0 rowE 8 []).bind fun l => .done (Va.mk 7 0 ⟨#[]⟩ l))
 else if c=48 then .adv (.peek fun d=>if d=120 then .adv (bitsP.bind fun n => .done (Va.mk 4 n ⟨#[]⟩ [])) else .done (Va.mk 2 0 ⟨#[]⟩ []))
 else intE:Pr Va)) (c.toNat:Int)).run (c::l):=fun c l=>rfl
  by_cases hz:n<0
  ·have e2:kb7 n=45::d::ds:=by unfold kb7;rw [if_pos hz,hd1]
   have hne:d≠48:=by
    have:=hd4 (by omega)
    intro e;subst e;simp at this
   rw [e2,qag,pk] at h
   simp only [show ((45:UInt8).toNat:Int)=45 from rfl,show ¬ ((45:Int)=116) by decide,show ¬ ((45:Int)=102) by decide,show ¬ ((45:Int)=34) by decide,show ¬ ((45:Int)=114) by decide,show ¬ ((45:Int)=91) by decide,show ¬ ((45:Int)=123) by decide,show ¬ ((45:Int)=60) by decide,show ¬ ((45:Int)=48) by decide,if_false] at h
   unfold intE at h
   rw [run_bind] at h
   have hn:∃ v q,numP.run (45::(d::ds++m))=(some v,q):=by
    unfold numP
    show ∃ v q,Pr.run (if (45:Int)=45 then Pr.adv (unsP true) else unsP false) (45::(d::ds++m))=(some v,q)
    rw [if_pos rfl]
    exact k4w hd48 fun _=>hne
   obtain ⟨v,q,e3⟩:=hn
   rw [e3] at h
   cases h
  ·have e2:kb7 n=d::ds:=by unfold kb7;rw [if_neg hz,hd1]
   unfold dig at hd48
   rw [e2,qag,pk] at h
   dsimp only at h
   rw [if_neg (by omega),if_neg (by omega),if_neg (by omega),if_neg (by omega),if_neg (by omega),if_neg (by omega),if_neg (by omega)] at h
   by_cases h0:n=0
   ·subst h0
    have e0:kb7 0=[48]:=by unfold kb7;rw [if_neg (by decide)];show decN 0=_;rw [decN];rfl
    rw [e0] at e2
    obtain ⟨rfl,rfl⟩:=List.cons.inj e2
    rw [if_pos (show ((48:UInt8).toNat:Int)=48 from rfl)] at h
    refine ⟨rfl,?_⟩
    have h:Pr.run ((fun d:Int=>if d=120 then .adv (bitsP.bind fun n => .done (Va.mk 4 n ⟨#[]⟩ [])) else .done (Va.mk 2 0 ⟨#[]⟩ [])) (hd m)) m=(none,m'):=h
    dsimp only at h
    by_cases h120:hd m=120
    ·exact h120
    ·rw [if_neg h120] at h;cases h
   ·have hne:¬ (d.toNat:Int)=48:=by have:=hd4 (by omega);omega
    rw [if_neg hne] at h
    unfold intE at h
    rw [run_bind] at h
    have hn:∃ v q,numP.run (d::(ds++m))=(some v,q):=by
     unfold numP
     show ∃ v q,Pr.run (if (d.toNat:Int)=45 then Pr.adv (unsP true) else unsP false) (d::(ds++m))=(some v,q)
     rw [if_neg (by omega)]
     exact k4w ⟨hd48.1,hd48.2⟩ fun h=>by cases h
    obtain ⟨v,q,e3⟩:=hn
    rw [e3] at h
    cases h
 ·rw [kyi hv fun h=>absurd h hi] at h
  cases h
theorem kpe (r:List UInt8):∃ o j,oneP.run r=(o,r.drop j)∧j≤r.length∧oneP.ev (mkB r) 0=(o,j):=by
 have e:=ksk (mkB r) oneP 0
 have hl:=k37 (mkB r)
 rw [qar,kct] at e
 rw [kcr] at hl
 exact ⟨_,_,e,hl,rfl⟩
theorem kaev {r:List UInt8} {j:Nat} (h:oneP.ev (mkB r) 0=(none,j)):prV (mkB r)=(Va.mk 0 0 ⟨#[]⟩ [],(j:Int),8):=by unfold prV;rw [h]
theorem kadb {r:List UInt8} {v:Va} {j:Nat} (h:oneP.ev (mkB r) 0=(some v,j)):prV (mkB r)=if j<r.length then (Va.mk 0 0 ⟨#[]⟩ [],(j:Int),8) else (v,0,0):=by unfold prV;rw [h,kcr]
theorem kaep {r:List UInt8} {j k:Nat} (h:oneP.ev (mkB r) 0=(none,j)) (hk:(prV (mkB (r.take k))).2.2=0):k=1∧(∃ t,r=48::120::t)∧(prV (mkB (r.take k))).1=Va.mk 2 0 ⟨#[]⟩ []:=by
 obtain ⟨e1,e2⟩:=kadk hk
 obtain ⟨o,j',h1,h2,h3⟩:=kpe r
 rw [h] at h3
 obtain ⟨rfl,rfl⟩:=Prod.mk.inj h3
 have er:r=kac (prV (mkB (r.take k))).1++r.drop k:=by rw [← e1,qa5]
 rw [er] at h1
 generalize (prV (mkB (r.take k))).1=v at e1 e2 h1 er
 obtain ⟨rfl,h120⟩:=kacd e2 h1
 have e0:kac (Va.mk 2 0 ⟨#[]⟩ [])=[48]:=by simp [kac,kb7,decN]
 rw [e0] at e1 er
 have hk1:=congrArg List.length e1
 rw [qai,qq,qab] at hk1
 cases hm:r.drop k with
 | nil=>rw [hm] at h120;exact absurd (show (0:Int)=120 from h120) (by decide)
 | cons c t=>
  rw [hm] at h120 er
  have hc:c=120:=cEq (d:=120) h120
  subst hc
  refine ⟨?_,⟨t,er⟩,rfl⟩
  rw [er] at hk1
  simp only [ql,qq,qab] at hk1
  omega
theorem kaef {t:List UInt8} {j:Nat} (h:oneP.ev (mkB (48::120::t)) 0=(none,j)):2≤j:=by
 obtain ⟨o,j',h1,h2,h3⟩:=kpe (48::120::t)
 rw [h] at h3
 obtain ⟨rfl,rfl⟩:=Prod.mk.inj h3
 have e:oneP.run (48::120::t)=Pr.run (bitsP.bind fun n => .done (Va.mk 4 n ⟨#[]⟩ [])) t:=rfl
 obtain ⟨k,hk⟩:∃ k,(Pr.run (bitsP.bind fun n => .done (Va.mk 4 n ⟨#[]⟩ [])) t).2=t.drop k:=by
  have:=ksk (mkB t) (bitsP.bind fun n => .done (Va.mk 4 n ⟨#[]⟩ [])) 0
  rw [qar,kct] at this
  exact ⟨_,by rw [this]⟩
 rw [e] at h1
 rw [h1] at hk
 have:=congrArg List.length hk
 simp only [qaq,qq] at this h2
 omega
def liR (s:List UInt8):(Va×List UInt8) ⊕ List UInt8→(Ex×Int) ⊕ Int
 | .inl (v,m) => .inl (Ex.mk 2 0 v ⟨#[]⟩ [],pos s m)
 | .inr m => .inr (pos s m)
theorem kaih (r:List UInt8):match litM r with
  | .inl (v,m)=>m <:+ r
  | .inr m=>m <:+ r:=by
 obtain ⟨o,j,h1,h2,_⟩:=kpe r
 unfold litM
 rw [h1]
 cases o with
 | some v=>exact List.drop_suffix j r
 | none=>
  simp only
  by_cases h48:r.head?=some 48
  ·rw [if_pos h48];exact List.tail_suffix r
  ·rw [if_neg h48];exact List.drop_suffix j r
theorem kahz (r:List UInt8) (h:r.length≤4000000):kcg (mkB r) (⟨#[48]⟩:BA)=some (decide (r.head?=some 48)):=by
 unfold kcg kco
 rw [show (((⟨#[48]⟩:BA).size:Int))=1 from rfl,kcr]
 cases r with
 | nil=>rfl
 | cons c t=>
  rw [qe (by simp only [qq];omega),qd,show cutS (mkB (c::t)) 0 1=some (mkB [c]) from koy (s:=mkB (c::t)) (a:=[c]) (b:=t) (kct _),qa,qa,ksn]
  show some (decide ([c]=[48]))=_
  congr 1
  rw [qa0]
  simp
theorem kaba {s r:List UInt8} (hs:s.length≤4000000) (h:r <:+ s):kc3 ⟨mkB s,pos s r⟩=some (liR s (litM r)):=by
 have hl:=kmb h
 obtain ⟨o,j,h1,h2,h3⟩:=kpe r
 unfold kc3 litM
 simp only
 rw [k6y h,qa,kol (by rw [kcr];omega),qa,h1]
 have hpj:∀ k,k≤r.length→w64 (pos s r+(k:Int))=pos s (r.drop k):=fun k hk=>by
  have:=k0u (s:=s) (a:=r.take k) (m:=r.drop k) hs (by rw [qa5];exact h)
  rw [qa5,qai,Nat.min_eq_left hk] at this
  exact this
 cases o with
 | some v=>
  rw [kadb h3]
  by_cases hj:j<r.length
  ·rw [if_pos hj,show ((8:Int) == 0)=false from rfl,qb]
   have hcut:cutS (mkB r) 0 (j:Int)=some (mkB (r.take j)):=by
    have:=koy (s:=mkB r) (a:=r.take j) (b:=r.drop j) (by rw [kct,qa5])
    rw [qai,Nat.min_eq_left h2] at this
    exact this
   obtain ⟨e1,e2⟩:=k0m h1
   have et:r.take j=kac v:=by
    have:=congrArg (List.take j) e1
    rw [this,List.take_append_of_le_length,List.take_of_length_le]
    ·have:=congrArg List.length e1;rw [ql,qaq] at this;omega
    ·have:=congrArg List.length e1;rw [ql,qaq] at this;omega
   rw [hcut,qa,kol (by rw [kcr,qai];omega),qa,et,k7l e2]
   simp only [bne_self_eq_false,qb,qa,kaaq,hpj j h2]
   rfl
  ·rw [if_neg hj]
   have:r.drop j=[]:=qaf (by omega)
   rw [this]
   simp only [qa3,qd,liR]
   rw [kcr]
   unfold pos
   simp
 | none=>
  rw [kaev h3]
  simp only [show ((8:Int) == 0)=false from rfl,qb]
  have hcut:cutS (mkB r) 0 (j:Int)=some (mkB (r.take j)):=by
   have:=koy (s:=mkB r) (a:=r.take j) (b:=r.drop j) (by rw [kct,qa5])
   rw [qai,Nat.min_eq_left h2] at this
   exact this
  have hno:(prV (mkB (r.take j))).2.2≠0:=fun hk=>by
   obtain ⟨q1,⟨t,q2⟩,_⟩:=kaep h3 hk
   subst q2
   have:=kaef h3
   omega
  rw [hcut,qa,kol (by rw [kcr,qai];omega),qa,show ((prV (mkB (r.take j))).2.2 != 0)=true by rw [qas];exact hno,qd,kahz r (by omega),qa,qa]
  by_cases h48:r.head?=some 48
  ·rw [qe h48,if_pos h48,qd]
   cases r with
   | nil=>cases h48
   | cons c t=>
    have hc:c=48:=qp h48
    subst hc
    have ht:=kwi hs h
    rw [show cutS (mkB (48::t)) 0 1=some (mkB [48]) from koy (s:=mkB (48::t)) (a:=[48]) (b:=t) (kct _),qa,kol (by rw [kcr];simp),qa]
    have e0:prV (mkB [48])=(Va.mk 2 0 ⟨#[]⟩ [],0,0):=by
     have:=k7l (v:=Va.mk 2 0 ⟨#[]⟩ []) (.inr (.inl ⟨0,rfl,by omega,by omega⟩))
     rw [show kac (Va.mk 2 0 ⟨#[]⟩ [])=[48] by simp [kac,kb7,decN]] at this
     exact this
    rw [e0]
    simp only [qa,bne_self_eq_false,qb,ht]
    rfl
  ·rw [qc h48,if_neg h48,qb,qa]
   simp only [show ((prV (mkB (r.take j))).2.2 != 0)=true by rw [qas];exact hno,qd,hpj j h2]
   rfl
end Go.Proofs.YtaimpcnpifoidaaGreatDoor
