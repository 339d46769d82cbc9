import Derived.Test.YtaimpcnpifoidaaGreatDoorBb
set_option linter.unusedVariables false
set_option linter.unusedSimpArgs false
set_option maxRecDepth 100000
namespace Go.Proofs.YtaimpcnpifoidaaGreatDoor
open Go Go.RowKit
mutual
def exT (l:La):Tm→Ex
 | .mk i ys=>if (kad l i).kind=3 then Ex.mk 3 0 kda (kad l i).op (exTs l ys) else if (kad l i).kind=1 then Ex.mk 1 (kad l i).input kda ⟨#[]⟩ [] else Ex.mk 2 0 (kad l i).const ⟨#[]⟩ []
def exTs (l:La):List Tm→List Ex
 | []=>[]
 | t::ts=>exT l t::exTs l ts
end
theorem km8 (l:La):∀ ts:List Tm,exTs l ts=ts.map (exT l)
 | []=>rfl
 | t::ts=>by rw [exTs,km8 l ts];rfl
inductive Dr (l:La):Int→Tm→Prop
 | mk {i:Int} {ys:List Tm} (h0:0≤i) (h1:i<(l.rules.length:Int)) (hl:ys.length=(kad l i).args.length) (ha:∀ (k:Nat) (hk:k<ys.length),Dr l ((kad l i).args.getD k 0) ys[k]):Dr l (kad l i).symbol (.mk i ys)
theorem kagq:∀ (n:Nat) (l:La) (s:Int) (t:Tm),t.size≤1000→t.size≤n→(∀ x∈l.rules,x.kind≠3→x.args.length=0)→kbh n l s t=some 0→Dr l s t
 | 0,l,s,t,_,h,_,_=>by have:=Tm.size_pos t;omega
 | n+1,l,s,t,hs,hn,hk,h=>by
  have h:kd5 (kbh n) l s t=some 0:=h
  unfold kd5 at h
  obtain ⟨b,h1,h⟩:=kd9 h
  rcases kdn h with ⟨_,h⟩ | ⟨hb,h⟩
  ·cases h
  subst hb
  obtain ⟨x,h2,h⟩:=kd9 h
  rcases kdn h with ⟨_,h⟩ | ⟨hsy,h⟩
  ·cases h
  rcases kdn h with ⟨_,h⟩ | ⟨hl,h⟩
  ·cases h
  have hl:t.args.length=x.args.length:=by have:=bne_eq_false_iff_eq.1 hl;omega
  have hsy:x.symbol=s:=bne_eq_false_iff_eq.1 hsy
  obtain ⟨v,h3,h⟩:=kd9 h
  have hv:∀ c:Int,c≠0→(.inr c:Unit ⊕ Int)≠v:=fun c hc he=>by
   subst he
   cases h
   exact hc rfl
  have hsa:=kk0 (t:=t)
  have hal:=kgd t.args
  have hst:∀ (i:Nat) (hi:i<t.args.length),∃ c,kbh n l (x.args[i]'(by omega)) t.args[i]=some c∧kb6 l t (kbh n) x (i:Int)=(bif c != 0 then some (.inr (.inr c)) else some (.inl ((i+1:Nat):Int))):=fun i hi=>by
   have hm:=Tm.sizeL_mem (qn hi)
   obtain ⟨c,c1,_⟩:=knv n l (x.args[i]'(by omega)) t.args[i] (by omega) (by omega) hk
   refine ⟨c,c1,?_⟩
   simp only [kb6,kbb hi,qd,kak,List.getElem?_eq_getElem hi,List.getElem?_eq_getElem (show i<x.args.length by omega),qa,c1,kg9 hi (show t.args.length≤9223372036854775807 by omega)]
  have hall:=fun i (hi:i<t.args.length)=>kl0 (step:=kb6 l t (kbh n) x) t.args.length (fun i=>(i:Int)) v (fun i hi=>by
   obtain ⟨c,_,c2⟩:=hst i hi
   rw [c2]
   cases hc:(c != 0) with
   | true=>exact .inr ⟨_,rfl,hv c (by simpa using hc)⟩
   | false=>exact .inl rfl) fuel 0 h3 i (qx _) hi
  obtain ⟨q0,q1,rfl,q3⟩:=kzt h2
  obtain ⟨i0,ys⟩:=t
  subst hsy
  refine .mk q0 q1 hl fun i hi=>?_
  obtain ⟨c,c1,c2⟩:=hst i hi
  have ha':=hall i hi
  rw [c2] at ha'
  have hm:(ys[i]).size≤Tm.sizeL ys:=Tm.sizeL_mem (qn hi)
  cases hc:(c != 0) with
  | true=>rw [hc] at ha'; cases ha'
  | false=>
   have hc:=bne_eq_false_iff_eq.1 hc
   subst hc
   have hsa':Tm.sizeL ys+1=(Tm.mk i0 ys).size:=rfl
   have hli:i<(kad l i0).args.length:=by
    have hl:ys.length=(kad l i0).args.length:=hl
    omega
   have e:(kad l i0).args.getD i 0=(kad l i0).args[i]:=by rw [List.getD_eq_getElem?_getD,List.getElem?_eq_getElem hli];rfl
   show Dr l ((kad l i0).args.getD i 0) ys[i]
   rw [e]
   exact kagq n l _ ys[i] (by omega) (by omega) hk c1
theorem kzm {l:La}:∀ (n:Nat) (s:Int) (t:Tm),t.size≤1000→t.size≤n→Dr l s t→kbh n l s t=some 0
 | 0,s,t,_,h,_=>by have:=Tm.size_pos t;omega
 | n+1,s,t,hs,hn,h=>by
  cases h with
  | @mk i ys h0 h1 hl ha=>
   have hsz:(Tm.mk i ys).size=Tm.sizeL ys+1:=rfl
   obtain ⟨e1,hm⟩:=khj h0 h1
   have hal:=kgd ys
   show kd5 (kbh n) l (kad l i).symbol (.mk i ys)=some 0
   unfold kd5
   simp only [show (Tm.mk i ys).rule=i from rfl,show (Tm.mk i ys).args=ys from rfl]
   rw [qc (show ¬ i<0 by omega),qb,qc (show ¬ (l.rules.length:Int)≤i by omega),qa,qb,e1,qa,bne_self_eq_false,qb,show ((ys.length:Int) != ((kad l i).args.length:Int))=false by rw [hl];exact bne_self_eq_false _,qb]
   have main:kaa (kb6 l (.mk i ys) (kbh n) (kad l i)) fuel 0=some (.inl ()):=by
    refine Ev.eq (ki5 ys.length (fun k v=>v=(k:Int)) (by omega) rfl (fun k v hk hI=>?_) fun v hI=>?_)
    ·subst hI
     have hmk:=Tm.sizeL_mem (qn hk)
     have hki:k<(kad l i).args.length:=by omega
     have e:(kad l i).args.getD k 0=(kad l i).args[k]:=by rw [List.getD_eq_getElem?_getD,List.getElem?_eq_getElem hki];rfl
     have hd:=ha k hk
     rw [e] at hd
     have:=kzm n _ ys[k] (by omega) (by omega) hd
     refine km0 (s:=((k+1:Nat):Int)) ?_ rfl
     simp only [kb6,show (Tm.mk i ys).args=ys from rfl,kbb hk,qd,kak,List.getElem?_eq_getElem hk,List.getElem?_eq_getElem hki,qa,this,bne_self_eq_false,qb,kg9 hk (show ys.length≤9223372036854775807 by omega)]
    ·subst hI
     refine klu (b := .inl ()) ?_ rfl
     simp only [kb6,show (Tm.mk i ys).args=ys from rfl,kez,qb]
   rw [main]
   rfl
theorem kae1:opNames.all (fun s=>s.data.toList.all wc && ((match s.data.toList with | []=>false | c::_=>decide (letC c)) && (decide (s.data.toList≠kwy) && (decide (s.data.toList≠ktf) && decide (inpL s.data.toList=none)))))=true:=by kernel_rfl
theorem kahp {s:BA} {o:S_api_Operator} (h:kbf s=some (o,true)):(∀ c∈bsOf s,wc c=true)∧(∃ c t,bsOf s=c::t∧letC c)∧bsOf s≠kwy∧bsOf s≠ktf∧inpL (bsOf s)=none:=by
 have:=qm.1 kae1 s (k00 h)
 simp only [qu,decide_eq_true_eq] at this
 obtain ⟨h1,h2,h3,h4,h5⟩:=this
 refine ⟨fun c hc=>qm.1 h1 c hc,?_,h3,h4,h5⟩
 show ∃ c t,s.data.toList=c::t∧letC c
 cases hs:s.data.toList with
 | nil=>rw [hs] at h2;cases h2
 | cons c t=>rw [hs] at h2;exact ⟨c,t,rfl,q9 h2⟩
theorem kabu {a m:List UInt8} (ha:∀ c∈a,wc c=true) (hm:∀ c t,m=c::t→wc c=false):(a++m).takeWhile wc=a:=by
 rw [List.takeWhile_append_of_pos ha]
 cases m with
 | nil=>simp
 | cons c t=>rw [List.takeWhile_cons,hm c t rfl];simp
theorem ksj {a m:List UInt8} (ha:∀ c∈a,wc c=true) (h1:∃ c t,a=c::t∧letC c) (hm:∀ c t,m=c::t→wc c=false):wdL (a++m)=a:=by
 obtain ⟨c,t,rfl,hc⟩:=h1
 show wdL (c::(t++m))=_
 rw [wdL,if_pos hc]
 exact kabu ha hm
def endB (c:UInt8):Prop:=c=44∨c=41
def endL (m:List UInt8):Prop:=∀ c t,m=c::t→endB c
theorem k28 {m:List UInt8} (h:endL m):∀ c t,m=c::t→wc c=false:=fun c t e=>by
 rcases h c t e with rfl | rfl <;> decide
theorem kafh {m:List UInt8} (h:endL m):stop m:=by
 cases m with
 | nil=>exact ⟨.inl (by decide),by decide⟩
 | cons c t=>rcases h c t rfl with rfl | rfl <;> exact kvp t (by decide)
theorem kxq:∀ (t r:List UInt8),kic t (t++r) = .inl r
 | [],r=>rfl
 | c::t,r=>by rw [qag,kic,if_pos rfl,kxq t r]
def kkt:Nat→List (List UInt8)→List UInt8
 | _,[]=>[]
 | k,x::xs=>sepW k++(x++kkt (k+1) xs)
theorem k1y:∀ (k:Nat) (xs:List (List UInt8)),kkt (k+1) xs=kff id xs
 | _,[]=>rfl
 | k,x::xs=>by
  rw [kkt,k1y (k+1) xs]
  unfold sepW
  rw [if_neg (by omega)]
  simp [kff]
theorem k1j {xs:List (List UInt8)} (h:xs≠[]):40::kba xs=kkt 0 xs:=by
 cases xs with
 | nil=>exact absurd rfl h
 | cons x xs=>
  have:=kky id xs x
  rw [List.map_id] at this
  rw [this,kkt,k1y]
  rfl
theorem kadz (k:Nat) (xs:List (List UInt8)) (m:List UInt8):endL (kkt (k+1) xs++(41::m)):=by
 intro c t e
 cases xs with
 | nil=>exact .inr (List.cons.inj e).1.symm
 | cons x xs=>
  rw [kkt] at e
  unfold sepW at e
  rw [if_neg (by omega)] at e
  exact .inl (List.cons.inj e).1.symm
theorem k4k {f:List UInt8→(Ex×List UInt8) ⊕ List UInt8} {tx:Tm→List UInt8} {ex:Tm→Ex} (m:List UInt8):∀ (ys:List Tm) (k:Nat) (acc:List Ex),(∀ y∈ys,∀ q,endL q→f (tx y++q) = .inl (ex y,q)) →
  argL f ys.length k acc (kkt k (ys.map tx)++(41::m)) = .inl (acc++ys.map ex,41::m)
 | [],k,acc,_=>by simp [argL,kkt]
 | y::ys,k,acc,h=>by
  rw [qq,argL,qah,kkt,qaa,kxq]
  simp only
  rw [qaa,h y (qo ..) _ (kadz k _ m)]
  simp only
  rw [k4k m ys (k+1) (acc++[ex y]) fun z hz=>h z (qk _ hz)]
  simp
theorem kafs {v:Va} (h:kgh v) {m:List UInt8} (he:endL m):litM (kac v++m) = .inl (v,m):=by
 unfold litM
 rw [k0b h (kafh he)]
theorem kakt {c:UInt8} {t:List UInt8} (h:¬ letC c):wdL (c::t)=[]:=by rw [wdL,if_neg h]
theorem kaks {v:Va} (h:kgh v) {m:List UInt8} (he:endL m):litW (wdL (kac v++m)) (kac v++m):=by
 have nl:∀ {c:UInt8} {t:List UInt8},kac v=c::t→¬ letC c→litW (wdL (kac v++m)) (kac v++m):=fun {c t} e hc=>by
  rw [e,qag,kakt hc];exact .inl rfl
 have int:∀ {v:Va},kns v→∃ c t,kac v=c::t∧¬ letC c:=fun {v} hv=>by
  obtain ⟨n,rfl,_⟩:=hv
  obtain ⟨d,ds,h1,h2,_⟩:=kst n.natAbs
  have hd:=h2 d (qo ..)
  rw [show kac (Va.mk 2 n ⟨#[]⟩ [])=kb7 n by simp [kac]]
  unfold kb7
  rw [h1]
  by_cases hz:n<0
  ·rw [if_pos hz];exact ⟨_,_,rfl,by decide⟩
  ·rw [if_neg hz];exact ⟨_,_,rfl,fun hl=>by unfold letC at hl;unfold dig at hd;omega⟩
 rcases h with (rfl | rfl) | h | ⟨n,rfl,_⟩ | ⟨s,rfl,_⟩ | ⟨s,rfl,_⟩ | ⟨l,rfl,_⟩ | ⟨l,rfl,_⟩ | ⟨l,rfl,_⟩
 ·rw [k5m];exact .inr (.inr (.inl (ksj (by decide) ⟨_,_,rfl,by decide⟩ (k28 he))))
 ·rw [k6e];exact .inr (.inl (ksj (by decide) ⟨_,_,rfl,by decide⟩ (k28 he)))
 ·obtain ⟨c,t,e,hc⟩:=int h
  exact nl e hc
 ·exact nl (by simp only [kac];rfl) (by decide)
 ·exact nl (by simp only [kac];rfl) (by decide)
 ·have e:kac (Va.mk 8 0 s [])++m=[114]++(34::(s.data.toList.flatMap escB++[34]++m)):=by simp [kac,kex]
  rw [e]
  exact .inr (.inr (.inr ⟨ksj (by decide) ⟨_,_,rfl,by decide⟩ (fun c t e=>by rw [← (List.cons.inj e).1];decide),rfl⟩))
 ·exact nl (by simp only [kac];rfl) (by decide)
 ·exact nl (by simp only [kac];rfl) (by decide)
 ·exact nl (by simp only [kac];rfl) (by decide)
theorem k6b {l:La} (hl:khu l) (hv:ValidL l):∀ (n:Nat) (t:Tm) (s:Int),t.size≤n→Dr l s t→∀ m,endL m→exM n (txT l t++m) = .inl (exT l t,m)
 | 0,t,s,h,_,_,_=>by have:=Tm.size_pos t;omega
 | n+1,t,s,hn,h,m,hm=>by
  cases h with
  | @mk i ys h0 h1 hlen ha=>
   have hsz:(Tm.mk i ys).size=Tm.sizeL ys+1:=rfl
   obtain ⟨_,hr⟩:=khj h0 h1
   have ok:=hv.okL hl
   have hone:=hv.one _ hr
   obtain ⟨j,hj,ej⟩:=qs.1 hr
   have hV:=(hv.valid j hj).2
   rw [ej] at hV
   unfold txT exT
   rw [exM]
   rcases hV with ⟨e,e2,e3,e4,e5,_⟩ | ⟨e,e2,e3,e4,e5,_⟩ | ⟨e,e2,e3,o,e4,e5,e6,_⟩
   ·have hin:=hv.inputs
    obtain ⟨k,hk⟩:∃ k:Nat,(kad l i).input=(k:Int):=⟨(kad l i).input.toNat,by omega⟩
    have k3:¬ (kad l i).kind=3:=by omega
    unfold knr
    simp only [if_neg k3,if_pos e,hk]
    have hk4:k<4:=by omega
    have e2:kb7 (k:Int)=[UInt8.ofNat (48+k)]:=by
     unfold kb7
     rw [if_neg (by omega),decN,dif_pos (by simp;omega)]
     simp
    have hall:∀ j:Fin 4,(∀ c∈([105,110,UInt8.ofNat (48+j.val)]:List UInt8),wc c=true)∧([105,110,UInt8.ofNat (48+j.val)]:List UInt8)≠kwy∧([105,110,UInt8.ofNat (48+j.val)]:List UInt8)≠ktf:=by decide
    obtain ⟨a1,a2,a3⟩:=hall ⟨k,hk4⟩
    have hinp:=kahy hk4
    rw [e2] at hinp ⊢
    have hw:wdL (105::110::[UInt8.ofNat (48+k)]++m)=[105,110,UInt8.ofNat (48+k)]:=ksj (a:=[105,110,UInt8.ofNat (48+k)]) a1 ⟨_,_,rfl,by decide⟩ (k28 hm)
    rw [hw,if_neg,hinp]
    ·simp only
     rw [show (105::110::[UInt8.ofNat (48+k)]++m).drop ([105,110,UInt8.ofNat (48+k)]:List UInt8).length=m from rfl]
    ·rintro (h | h | h | ⟨h,_⟩)
     ·cases h
     ·exact a2 h
     ·exact a3 h
     ·have:=congrArg List.length h;simp at this
   ·have hval:=(ok.val hr (by omega) (by omega)).2
    have k3:¬ (kad l i).kind=3:=by omega
    have k1:¬ (kad l i).kind=1:=by omega
    unfold knr
    simp only [if_neg k3,if_neg k1]
    rw [if_pos (kaks hval hm),kafs hval hm]
   ·simp only [if_pos e]
    obtain ⟨w1,w2,w3,w4,w5⟩:=kahp e4
    have hne:ys≠[]:=fun e'=>by
     have:=hone e
     rw [e'] at hlen
     simp at hlen
     omega
    have hb:bsOf (kad l i).op++(40::(kba (txTs l ys)++[41]))++m=bsOf (kad l i).op++(kkt 0 (ys.map (txT l))++(41::m)):=by
     rw [← k1j (by simpa using hne),kom]
     simp
    rw [hb]
    have hh:∀ c t,kkt 0 (ys.map (txT l))++(41::m)=c::t→c=40:=fun c t e'=>by
     rw [← k1j (by simpa using hne)] at e'
     exact (List.cons.inj e').1.symm
    have hw:wdL (bsOf (kad l i).op++(kkt 0 (ys.map (txT l))++(41::m)))=bsOf (kad l i).op:=ksj w1 w2 fun c t e'=>by rw [hh c t e'];decide
    have hL:¬ litW (bsOf (kad l i).op) (bsOf (kad l i).op++(kkt 0 (ys.map (txT l))++(41::m))):=by
     rintro (h | h | h | ⟨h,h34⟩)
     ·obtain ⟨c,t,e',_⟩:=w2;rw [e'] at h;cases h
     ·exact w3 h
     ·exact w4 h
     ·rw [h] at h34
      cases hq:kkt 0 (ys.map (txT l))++(41::m) with
      | nil=>simp at hq
      | cons c t=>
       rw [hq] at h34
       have:=hh c t hq
       subst this
       exact absurd (qp h34) (by decide)
    have hop:opM (bsOf (kad l i).op)=some ys.length:=by
     unfold opM
     rw [koj,e4]
     simp only
     rw [hlen,e5]
    rw [hw,if_neg hL,w5,hop]
    simp only
    rw [List.drop_left,k4k m ys 0 [] fun y hy q hq=>?_]
    ·simp only
     rw [show kic [41] (41::m) = .inl m from kxq [41] m]
     simp only
     rw [koj,km8,List.nil_append]
    ·obtain ⟨k,hk,rfl⟩:=qs.1 hy
     have:=Tm.sizeL_mem (qn hk)
     exact k6b hl hv n ys[k] _ (by omega) (ha k hk) q hq
end Go.Proofs.YtaimpcnpifoidaaGreatDoor
