import Derived.Test.YtaimpcnpifoidaaGreatDoorNj
set_option linter.unusedVariables false
set_option linter.unusedSimpArgs false
set_option maxRecDepth 100000
namespace Go.Proofs.YtaimpcnpifoidaaGreatDoor
open Go Go.RowKit
theorem k7j (m:List (BA×Int)) (s:BA):mhas m s=(mget m s 0 == mget m s 1):=by
 unfold mhas mget
 cases kgu s m 0 with
 | none=>rfl
 | some p=>obtain ⟨i,x⟩:=p;simp
theorem kaaz (m:List (BA×Int)) (k s:BA) (y:Int):mhas (mput m k y) s=bif s.toList == k.toList then true else mhas m s:=by
 rw [k7j,k7j,kpd,kpd]
 cases s.toList == k.toList with
 | true=>simp
 | false=>rfl
def MapOk (m:List (BA×Int)) (sy:List Sy):Prop:=∀ w:List UInt8,mhas m (mkB w)=(kb7 sy w).isSome∧∀ i,kb7 sy w=some i→mget m (mkB w) 0=(i:Int)
theorem MapOk.nil:MapOk [] []:=fun w=>⟨rfl,fun i h=>by cases h⟩
theorem kag5 (a:List UInt8) (s:BA):((mkB a).toList == s.toList)=decide (bsOf s=a):=by
 rw [Bool.eq_iff_iff,decide_eq_true_iff,beqB_iff]
 constructor
 ·intro h;rw [← h];exact kbh a
 ·intro h;rw [← h,kfw]
theorem MapOk.add {m:List (BA×Int)} {sy:List Sy} (h:MapOk m sy) (w:List UInt8) (t:Int):MapOk (if mhas m (mkB w)=true then m else mput m (mkB w) (sy.length:Int)) (sy++[⟨mkB w,t⟩]):=by
 intro v
 have hv:=h v
 have hw:=h w
 rw [k1n]
 show _∧_
 have eb:bsOf (Sy.mk (mkB w) t).name=w:=kbh w
 rw [eb]
 by_cases hm:mhas m (mkB w)=true
 ·rw [if_pos hm]
  cases hp:kb7 sy v with
  | some i=>rw [hp] at hv;exact ⟨hv.1,fun j hj=>by cases hj;exact hv.2 i rfl⟩
  | none=>
   rw [hp] at hv
   have hne:¬ w=v:=fun e=>by
    subst e
    rw [hm] at hv
    cases hv.1
   simp only
   rw [if_neg hne]
   exact ⟨hv.1,fun j hj=>by cases hj⟩
 ·rw [if_neg hm,kaaz,kpd,kag5,show bsOf (mkB w)=w from kbh w]
  by_cases he:w=v
  ·subst he
   have hn:kb7 sy w=none:=by
    cases hp:kb7 sy w with
    | none=>rfl
    | some i=>rw [hp] at hw;exact absurd hw.1 hm
   rw [hn]
   simp only
   simp only [decide_true,if_true,qd]
   exact ⟨rfl,fun j hj=>by cases hj;rfl⟩
  ·rw [qe he]
   simp only [qb]
   cases hp:kb7 sy v with
   | some i=>rw [hp] at hv;exact ⟨hv.1,fun j hj=>by cases hj;exact hv.2 i rfl⟩
   | none=>
    rw [hp] at hv
    simp only
    rw [if_neg he]
    exact ⟨hv.1,fun j hj=>by cases hj⟩
theorem k54 {sy:List Sy} {ws:List (List UInt8)} {k:Nat} (hk:k<ws.length) (h:kb7 sy ws[k]=none):kds sy ws=none:=by
 have key:∀ {a:List (List UInt8)} {w:List UInt8} {b:List (List UInt8)},kb7 sy w=none→kds sy (a++w::b)=none:=by
  intro a w b hw
  induction a with
  | nil=>rw [qa7,kds,hw]
  | cons x a ih=>
   rw [qah,kds]
   cases kb7 sy x with
   | none=>rfl
   | some i=>simp only;rw [ih];rfl
 have e:ws=ws.take k++ws[k]::ws.drop (k+1):=by rw [List.getElem_cons_drop,List.take_append_drop]
 rw [e]
 exact key h
theorem k59 {sy:List Sy} {ws:List (List UInt8)} {k:Nat} (hk:k<ws.length) {is:List Int} {i:Nat} (h1:kds sy (ws.take k)=some is) (h2:kb7 sy ws[k]=some i):kds sy (ws.take (k+1))=some (is++[(i:Int)]):=by
 rw [qar hk,kzj,h1,h2]
 rfl
def namQ (sy:List Sy) (w:List UInt8) (ws:List (List UInt8)):(Int×List Int) ⊕ Unit:=match kb7 sy w,kds sy ws with
 | some y,some ys => .inl ((y:Int),ys)
 | _,_ => .inr ()
theorem kty {m:List (BA×Int)} {sy:List Sy} (hm:MapOk m sy) {w:List UInt8} {ws:List (List UInt8)} (hl:ws.length≤70001)
  {v:Int×Int×Int×Int×BA×List Va×BA×List BA} (hv:v.2.2.2.2.2.2.2=(w::ws).map mkB) {step:Int×Int×List Int→Option ((Int×Int×List Int) ⊕ ((Int×List Int) ⊕ Unit))}
  (hs:∀ s,step s=kcl m v s):kaa step fuel (0,0,[])=some (namQ sy w ws):=by
 rw [show step=kcl m v from funext hs]
 have hlen:(v.2.2.2.2.2.2.2).length=ws.length+1:=by rw [hv,qaa,qi]
 have at0:(v.2.2.2.2.2.2.2)[0]?=some (mkB w):=by rw [hv];rfl
 have atS:∀ k (hk:k<ws.length),(v.2.2.2.2.2.2.2)[k+1]?=some (mkB ws[k]):=fun k hk=>by
  rw [hv,qac,List.getElem?_cons_succ,List.getElem?_map,List.getElem?_eq_getElem hk];rfl
 refine Ev.eq (kh2 (ws.length+1) (fun k s=>(k=0∧s=(0,0,[]))∨∃ j y ys,k=j+1∧kb7 sy w=some y∧kds sy (ws.take j)=some ys∧s=(((j+1:Nat):Int),(y:Int),ys)) (by omega) (.inl ⟨rfl,rfl⟩) (fun k s hk hI=>?_) fun s hI=>?_)
 ·rcases hI with ⟨rfl,rfl⟩ | ⟨j,y,ys,rfl,h1,h2,rfl⟩
  ·have hw:=hm w
   unfold kcl
   rw [hlen]
   simp only [qf (show (0:Int)<((ws.length+1:Nat):Int) by omega),qd]
   rw [show idx v.2.2.2.2.2.2.2 0=some (mkB w) from (kal _ 0).trans at0,qa]
   cases hp:kb7 sy w with
   | none=>
    rw [hp] at hw
    rw [show mhas m (mkB w)=false from hw.1]
    refine kn8 (b := .inr ()) rfl ?_
    unfold namQ;rw [hp]
   | some y=>
    rw [hp] at hw
    rw [show mhas m (mkB w)=true from hw.1,hw.2 y rfl]
    refine kk2 (s:=(1,(y:Int),[])) rfl (.inr ⟨0,y,[],rfl,rfl,rfl,rfl⟩)
  ·have hj:j<ws.length:=by omega
   have hw:=hm ws[j]
   have hyl:ys.length≤70001:=by
    have:=(kok h2).1
    have:=congrArg List.length this
    rw [qaa,qak] at this
    omega
   unfold kcl
   rw [hlen]
   simp only [qf (show ((j+1:Nat):Int)<((ws.length+1:Nat):Int) by omega),qd,kal,atS j hj,qa,show ((((j+1:Nat):Int)) == 0)=false by rw [qz];omega,w64s (j+1) (by omega)]
   cases hp:kb7 sy ws[j] with
   | none=>
    rw [hp] at hw
    rw [show mhas m (mkB ws[j])=false from hw.1]
    refine kn8 (b := .inr ()) rfl ?_
    unfold namQ;rw [h1,k54 hj hp]
   | some i=>
    rw [hp] at hw
    rw [show mhas m (mkB ws[j])=true from hw.1,hw.2 i rfl,kil (b:=8) (xs:=ys) (ys:=[(i:Int)]) (by simp only [qi,qn];omega)]
    exact kk2 (s:=(((j+1+1:Nat):Int),(y:Int),ys++[(i:Int)])) rfl (.inr ⟨j+1,y,ys++[(i:Int)],rfl,h1,k59 hj h2 hp,rfl⟩)
 ·rcases hI with ⟨h,_⟩ | ⟨j,y,ys,h,h1,h2,rfl⟩
  ·omega
  ·obtain rfl:j=ws.length:=by omega
   rw [qas] at h2
   refine kkp (b := .inl ((y:Int),ys)) ?_ (by unfold namQ;rw [h1,h2])
   unfold kcl
   rw [hlen]
   simp only [ket,qb]
def ruR (ru:List Ru):Int ⊕ Ru→Int×List Ru
 | .inl e=>(e,ru)
 | .inr r=>(0,ru++[r])
theorem k36 {b op:List UInt8} {ws:List (List UInt8)} (h:appL b=some (op,ws)) (hb:b.length≤70000):ws.length≤70001∧op.length≤70000:=by
 unfold appL at h
 split at h
 ·cases h
 ·rename_i o rest hc
  have h1:=kfh (by simp) hc
  split at h
  ·split at h
   ·cases h;exact ⟨by simp,by omega⟩
   ·split at h
    ·cases h
     have:=(kos (w:=[44,32]) (s:=rest.dropLast) (by simp) (by rw [List.length_dropLast];omega)).1
     exact ⟨this,by omega⟩
    ·cases h
  ·cases h
theorem kajt (nm:BA) (ins:List Int) {sy:List Sy} {ru:List Ru} {m:List (BA×Int)} (hm:MapOk m sy) (hr:ru.length≤70000) {s:List UInt8} (hs:s.length≤70000):
  kfy nm ins sy ru m (mkB s)=some (ruR ru (ruL sy s)):=by
 unfold kfy ruL
 rw [kaiy (by simp) (by omega),qa]
 cases hc:cutW [32,61,32] s with
 | none=>rfl
 | some p=>
  obtain ⟨w,b⟩:=p
  have hlen:=kfh (by simp) hc
  simp only [cutR,q9,qb]
  rw [kq3 (by rw [kbm];omega),qa]
  by_cases h1:kbt (mkB w)
  ·rw [qf h1,if_pos h1,q9,qa,qb,inp_p,qa]
   unfold rhsL
   cases hi:inpL b with
   | some k=>
    simp only [inpR,qd,qa,qg]
    rw [kty hm (w:=w) (ws:=[]) (by simp) (v:=(1,(k:Int),0,0,⟨#[]⟩,[],⟨#[]⟩,[mkB w])) rfl (fun _=>rfl),qa]
    unfold namQ
    cases kb7 sy w with
    | none=>rfl
    | some y=>
     simp only [kds,qg]
     rw [kil (by simp only [qi,qn];omega)]
     rfl
   | none=>
    simp only [inpR,qb]
    rw [kyi (by rw [kbm];omega),qa]
    by_cases hp:(prV (mkB b)).2.2=0
    ·rw [if_pos hp,show ((prV (mkB b)).2.2 == 0)=true by rw [hp];rfl,qd,qa,qg]
     rw [kty hm (w:=w) (ws:=[]) (by simp) rfl (fun _=>rfl),qa]
     unfold namQ
     cases kb7 sy w with
     | none=>rfl
     | some y=>
      simp only [kds,qg]
      rw [kil (by simp only [qi,qn];omega)]
      show some (0,ru++[Ru.mk (y:Int) 2 0 (Va.mk (prV (mkB b)).1.type (prV (mkB b)).1.num (prV (mkB b)).1.text (prV (mkB b)).1.items) ⟨#[]⟩ []])=_
      rw [kacl]
      rfl
    ·rw [if_neg hp,show ((prV (mkB b)).2.2 == 0)=false from beq_false_of_ne hp,qb,app_p (by omega),qa]
     cases ha:appL b with
     | none=>rfl
     | some q=>
      obtain ⟨op,ws⟩:=q
      obtain ⟨l1,l2⟩:=k36 ha (by omega)
      simp only [appR,q9,qb,qa6]
      rw [kil (b:=16) (xs:=[mkB w]) (by simp only [qi,qn,qaa];omega),qa,qa,qg]
      rw [kty hm (w:=w) (ws:=ws) l1 rfl (fun _=>rfl),qa]
      unfold namQ
      cases kb7 sy w with
      | none=>rfl
      | some y=>
       cases kds sy ws with
       | none=>rfl
       | some ys=>
        simp only [qg]
        rw [kil (by simp only [qi,qn];omega)]
        rfl
  ·rw [qe h1,if_neg h1];rfl
theorem kafq {ws:List (List UInt8)} {k:Nat} (hk:k<ws.length) (h:kfq ws[k]=none):tysL ws=none:=by
 have key:∀ {a:List (List UInt8)} {w:List UInt8} {b:List (List UInt8)},kfq w=none→tysL (a++w::b)=none:=by
  intro a w b hw
  induction a with
  | nil=>rw [qa7,tysL,hw]
  | cons x a ih=>
   rw [qah,tysL]
   cases kfq x with
   | none=>rfl
   | some i=>simp only;rw [ih];rfl
 have e:ws=ws.take k++ws[k]::ws.drop (k+1):=by rw [List.getElem_cons_drop,List.take_append_drop]
 rw [e]
 exact key h
theorem kaez {ws:List (List UInt8)} (hl:ws.length≤70001):Ev (kaa (keo (ws.map mkB)) fuel (0,[])) fun r=>match tysL ws with
  | some ts=>r = .inl ts
  | none=>∃ x,r = .inr x:=by
 have hlen:(ws.map mkB).length=ws.length:=qaa ..
 refine kh2 ws.length (fun k s=>∃ ts,tysL (ws.take k)=some ts∧s=((k:Int),ts)) (by omega) ⟨[],rfl,rfl⟩ (fun k s hk ⟨ts,h1,e⟩=>?_) fun s ⟨ts,h1,e⟩=>?_
 ·subst e
  have e1:(ws.map mkB)[k]?=some (mkB ws[k]):=by rw [List.getElem?_map,List.getElem?_eq_getElem hk];rfl
  have htl:ts.length≤70001:=by
   have:=congrArg List.length (kuq h1).1
   rw [qaa,qak] at this
   omega
  unfold keo
  rw [hlen]
  simp only [kbe hk,qd,kal,e1,qa,pt_p,kjq hk (show ws.length≤9223372036854775807 by omega)]
  cases hp:kfq ws[k] with
  | none=>
   refine kn8 (b := .inr ts) rfl ?_
   rw [kafq hk hp]
   exact ⟨ts,rfl⟩
  | some t=>
   simp only [ptR,q9,qb]
   rw [kil (by simp only [qi,qn];omega)]
   refine kk2 (s:=(((k+1:Nat):Int),ts++[t])) rfl ⟨ts++[t],?_,rfl⟩
   rw [qar hk,k7b,h1,hp]
   rfl
 ·subst e
  rw [qas] at h1
  rw [h1]
  refine kkp (b := .inl ts) ?_ rfl
  unfold keo
  rw [hlen]
  simp only [ket,qb]
abbrev LnR:=Int×BA×List Int×List Sy×List Ru×List (BA×Int)
def LineQ:Int ⊕ La→LnR→Prop
 | .inl e,r=>r.1=e∧e≠0
 | .inr l,r=>∃ m,r=(0,l.name,l.inputs,l.symbols,l.rules,m)∧MapOk m l.symbols
theorem kakw {sy:List Sy} {s:List UInt8} {e:Int} (h:ruL sy s = .inl e):e≠0:=by
 unfold ruL at h
 split at h
 ·cases h;decide
 ·split at h
  ·split at h
   ·cases h;decide
   ·split at h
    ·cases h
    ·cases h;decide
  ·cases h;decide
theorem k30 {w s:List UInt8} (hw:w≠[]):kdk w s=(match cutW w s with | none=>[s] | some (a,b)=>a::kdk w b):=by
 cases h:cutW w s with
 | none=>exact kjx h
 | some p=>obtain ⟨a,b⟩:=p;exact kkv hw h
theorem kaet {α:Type} (x:α) (xs:List α):cutL (x::xs) 1 ((x::xs).length:Int)=some xs:=by
 unfold cutL
 rw [if_pos ⟨by omega,by rw [qi];omega,by omega⟩]
 simp
theorem kajn {n:Nat} {l:La} {m:List (BA×Int)} {s:List UInt8} (hm:MapOk m l.symbols) (hI:n=2→l.inputs=[]) (h1:l.symbols.length≤70000) (h2:l.rules.length≤70000) (hs:s.length≤70000):
  Ev (kfx l.name l.inputs l.symbols l.rules m (n:Int) (mkB s)) (LineQ (kjc n l s)):=by
 have hsz:(mkB s).size≤4000000:=by rw [kbm];omega
 obtain ⟨nm,ins,sy,ru⟩:=l
 simp only at hm hI h1 h2 ⊢
 unfold kfx
 rw [k5q hsz,kbh,qa,k29 (by simp) (by omega),qa]
 -- the first word,what is behind it,the other words
 obtain ⟨kw,rest,ws,hcut,hsp,hws⟩:∃ kw rest ws,cutR (mkB s) (cutW [32] s)=(mkB kw,mkB rest,(cutW [32] s).isSome)∧kdk [32] s=kw::ws ∧
   ((cutW [32] s=none∧kw=s∧rest=[]∧ws=[])∨(cutW [32] s=some (kw,rest)∧ws=kdk [32] rest)):=by
  cases hc:cutW [32] s with
  | none=>exact ⟨s,[],[],rfl,kjx hc, .inl ⟨rfl,rfl,rfl,rfl⟩⟩
  | some p=>obtain ⟨a,b⟩:=p;exact ⟨a,b,kdk [32] b,rfl,kkv (by simp) hc, .inr ⟨rfl,rfl⟩⟩
 have hwl:=(kos (w:=[32]) (s:=s) (by simp) hs)
 have hkl:rest.length≤70000:=by
  rcases hws with ⟨_,_,rfl,_⟩ | ⟨hc,_⟩
  ·simp
  ·have:=kfh (by simp) hc;omega
 rw [hcut,hsp,qac,kaet,qa]
 have hwl2:ws.length≤70001:=by have:=hwl.1;rw [hsp,qi] at this;omega
 simp only [ks3]
 unfold kjc
 by_cases n1:n=1
 ·subst n1
  rw [if_pos rfl,show (((1:Nat):Int) == 1)=true from rfl,qd]
  by_cases k1:kw=[108,97,110,103,117,97,103,101]
  ·rw [qf k1,q9,qb,kq3 (by rw [kbm];omega),qa,qa]
   rcases hws with ⟨hc,_,rfl,_⟩ | ⟨hc,_⟩
   ·rw [hc,qe (fun h:kbt (mkB [])=>absurd h.1.1 (by decide))]
    exact kac ⟨rfl,by decide⟩
   ·rw [hc]
    by_cases k2:kbt (mkB rest)
    ·simp only
     rw [qf k2,if_pos ⟨k1,k2⟩]
     exact kac ⟨m,rfl,hm⟩
    ·simp only
     rw [qe k2,if_neg fun h=>k2 h.2]
     exact kac ⟨rfl,by decide⟩
  ·rw [qe k1,qat,qd,qa,qd,qa]
   rcases hws with ⟨hc,_,rfl,_⟩ | ⟨hc,_⟩
   ·rw [hc];exact kac ⟨rfl,by decide⟩
   ·rw [hc]
    simp only
    rw [if_neg fun h=>k1 h.1]
    exact kac ⟨rfl,by decide⟩
 rw [if_neg n1,show (((n:Nat):Int) == 1)=false by rw [qz];omega,qb]
 by_cases n2:n=2
 ·subst n2
  obtain rfl:=hI rfl
  rw [if_pos rfl,show (((2:Nat):Int) == 2)=true from rfl,qd,hsp,List.head?_cons,List.tail_cons]
  by_cases k1:kw=[105,110,112,117,116,115]
  ·rw [qf k1,q9,qb,if_pos (show some kw=some bInp by rw [k1];rfl)]
   obtain ⟨r,e,hr⟩:=kaez hwl2
   rw [e,qa]
   cases ht:tysL ws with
   | none=>
    rw [ht] at hr
    obtain ⟨x,rfl⟩:=hr
    exact kac ⟨rfl,by decide⟩
   | some ts=>
    rw [ht] at hr
    simp only at hr
    subst hr
    exact kac ⟨m,rfl,hm⟩
  ·rw [qe k1,if_neg (fun h:some kw=some bInp=>k1 (qq h))]
   exact kac ⟨rfl,by decide⟩
 rw [if_neg n2,show (((n:Nat):Int) == 2)=false by rw [qz];omega,qb]
 by_cases k1:kw=[115,121,109,98,111,108]
 ·rw [qf k1,qd]
  by_cases k2:ru=[]
  ·subst k2
   rw [show ((([]:List Ru).length:Int) == 0)=true from rfl,qa,qd]
   rcases hws with ⟨hc,_,rfl,rfl⟩ | ⟨hc,hws⟩
   ·rw [hc]
    exact kac ⟨rfl,by decide⟩
   ·rw [hc]
    simp only
    rw [if_pos ⟨k1,trivial⟩]
    rw [k30 (by simp)] at hws
    cases hc2:cutW [32] rest with
    | none=>
     rw [hc2] at hws
     simp only at hws
     subst hws
     exact kac ⟨rfl,by decide⟩
    | some p=>
     obtain ⟨w,t⟩:=p
     have hl2:=kfh (by simp) hc2
     rw [hc2] at hws
     simp only at hws
     rw [k30 (by simp)] at hws
     cases hc3:cutW [32] t with
     | some q=>
      obtain ⟨t1,t2⟩:=q
      rw [hc3] at hws
      simp only at hws
      have hlt:((((w::t1::kdk [32] t2).map mkB).length:Int) != 2)=true:=by
       rw [qa0,qaa,qi,qi]
       have:=k5l [32] t2
       have:=List.length_pos_iff.2 this
       omega
      have hty:kfq t=none:=by
       cases ht:kfq t with
       | none=>rfl
       | some y=>
        obtain ⟨e1,e2⟩:=k0n ht
        have h32:(32:UInt8)∈t:=by rw [(cut1_some.1 hc3).1];simp
        rw [e1] at h32
        exact absurd h32 (k0d e2).1
      rw [hws,hlt,qd,qa,qd,qa]
      simp only [hty]
      by_cases k3:kbt (mkB w)
      ·simp only [if_pos k3];exact kac ⟨rfl,by decide⟩
      ·simp only [if_neg k3];exact kac ⟨rfl,by decide⟩
     | none=>
      rw [hc3] at hws
      simp only at hws
      have hlt:((([w,t].map mkB).length:Int) != 2)=false:=rfl
      have i0:idx ([w,t].map mkB) 0=some (mkB w):=rfl
      have i1:idx ([w,t].map mkB) 1=some (mkB t):=rfl
      rw [hws,hlt,qb,i0,i1]
      simp only [qa]
      rw [kq3 (by rw [kbm];omega)]
      simp only [qa]
      by_cases k3:kbt (mkB w)
      ·simp only [qf k3,if_pos k3,q9,qb,pt_p,qa]
       cases ht:kfq t with
       | none=>exact kac ⟨rfl,by decide⟩
       | some ty=>
        have hadd:=hm.add w ty
        simp only [ptR,q9,qb]
        rw [kil (by simp only [qi,qn];omega)]
        by_cases hh:mhas m (mkB w)=true
        ·rw [if_pos hh] at hadd
         rw [hh]
         exact kac ⟨m,rfl,hadd⟩
        ·rw [if_neg hh] at hadd
         rw [show mhas m (mkB w)=false from Bool.eq_false_iff.2 hh]
         exact kac ⟨_,rfl,hadd⟩
      ·simp only [qe k3,if_neg k3,qat,qd]
       exact kac ⟨rfl,by decide⟩
  ·have hz:((ru.length:Int) == 0)=false:=by
    rw [qz]
    intro e
    exact k2 (qy (by omega))
   rw [hz,qa,qb,qe (fun e:kw=[114,117,108,101]=>by rw [k1] at e;exact absurd e (by decide)),qb,qa]
   rcases hws with ⟨hc,_,rfl,rfl⟩ | ⟨hc,hws⟩
   ·rw [hc];exact kac ⟨rfl,by decide⟩
   ·rw [hc]
    simp only
    rw [if_neg fun h=>k2 h.2,if_neg (show ¬ kw=kmj from fun h=>by rw [k1] at h;exact absurd h (by decide))]
    exact kac ⟨rfl,by decide⟩
 ·rw [qe k1,qb,qa,qb]
  by_cases k2:kw=[114,117,108,101]
  ·rw [qf k2,qd,kajt nm ins hm h2 hkl,qa,qa]
   rcases hws with ⟨hc,_,rfl,rfl⟩ | ⟨hc,hws⟩
   ·rw [hc];exact kac ⟨rfl,by decide⟩
   ·rw [hc]
    simp only
    rw [if_neg fun h=>k1 h.1,if_pos (show kw=kmj from k2)]
    cases hr:ruL sy rest with
    | inl e=>exact kac ⟨rfl,kakw hr⟩
    | inr r=>exact kac ⟨m,rfl,hm⟩
  ·rw [qe k2,qb,qa]
   rcases hws with ⟨hc,_,rfl,rfl⟩ | ⟨hc,hws⟩
   ·rw [hc];exact kac ⟨rfl,by decide⟩
   ·rw [hc]
    simp only
    rw [if_neg fun h=>k1 h.1,if_neg (show ¬ kw=kmj from k2)]
    exact kac ⟨rfl,by decide⟩
end Go.Proofs.YtaimpcnpifoidaaGreatDoor
