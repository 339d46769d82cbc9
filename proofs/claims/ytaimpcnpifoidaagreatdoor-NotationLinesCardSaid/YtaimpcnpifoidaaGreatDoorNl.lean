import Derived.Test.YtaimpcnpifoidaaGreatDoorNj
set_option linter.unusedVariables false
set_option linter.unusedSimpArgs false
set_option maxRecDepth 100000
namespace Go.Proofs.YtaimpcnpifoidaaGreatDoor
open Go Go.RowKit
theorem k3s (m:List (BA×Int)) (s:BA):mhas m s=(mget m s 0 == mget m s 1):=by
 unfold mhas mget
 cases kf1 s m 0 with
 | none=>rfl
 | some p=>obtain ⟨i,x⟩:=p;simp
theorem k7b (m:List (BA×Int)) (k s:BA) (y:Int):mhas (mput m k y) s=bif s.toList == k.toList then true else mhas m s:=by
 rw [k3s,k3s,kn5,kn5]
 cases s.toList == k.toList with
 | true=>simp
 | false=>rfl
def MapOk (m:List (BA×Int)) (sy:List Sy):Prop:=∀ w:List UInt8,mhas m (mkB w)=(kcr sy w).isSome∧∀ i,kcr sy w=some i→mget m (mkB w) 0=(i:Int)
theorem MapOk.nil:MapOk [] []:=fun w=>⟨rfl,fun i h=>by cases h⟩
theorem kado (a:List UInt8) (s:BA):((mkB a).toList == s.toList)=decide (bsOf s=a):=by
 rw [Bool.eq_iff_iff,decide_eq_true_iff,beqB_iff]
 constructor
 ·intro h;rw [← h];exact kbl a
 ·intro h;rw [← h,kkf]
theorem MapOk.add {m:List (BA×Int)} {sy:List Sy} (h:MapOk m sy) (w:List UInt8) (t:Int):MapOk (if mhas m (mkB w)=true then m else mput m (mkB w) (sy.length:Int)) (sy++[⟨mkB w,t⟩]):=by
 intro v
 have hv:=h v
 have hw:=h w
 rw [ky9]
 show _∧_
 have eb:bsOf (Sy.mk (mkB w) t).name=w:=kbl w
 rw [eb]
 by_cases hm:mhas m (mkB w)=true
 ·rw [if_pos hm]
  cases hp:kcr sy v with
  | some i=>rw [hp] at hv;exact ⟨hv.1,fun j hj=>by cases hj;exact hv.2 i rfl⟩
  | none=>
   rw [hp] at hv
   have hne:¬ w=v:=fun e=>by
    subst e
    rw [hm] at hv
    cases hv.1
   simp only
   rw [if_neg hne]
   exact ⟨hv.1,fun j hj=>by cases hj⟩
 ·rw [if_neg hm,k7b,kn5,kado,show bsOf (mkB w)=w from kbl w]
  by_cases he:w=v
  ·subst he
   have hn:kcr sy w=none:=by
    cases hp:kcr sy w with
    | none=>rfl
    | some i=>rw [hp] at hw;exact absurd hw.1 hm
   rw [hn]
   simp only
   simp only [decide_true,if_true,qd]
   exact ⟨rfl,fun j hj=>by cases hj;rfl⟩
  ·rw [qc he]
   simp only [qb]
   cases hp:kcr sy v with
   | some i=>rw [hp] at hv;exact ⟨hv.1,fun j hj=>by cases hj;exact hv.2 i rfl⟩
   | none=>
    rw [hp] at hv
    simp only
    rw [if_neg he]
    exact ⟨hv.1,fun j hj=>by cases hj⟩
theorem k26 {sy:List Sy} {ws:List (List UInt8)} {k:Nat} (hk:k<ws.length) (h:kcr sy ws[k]=none):kee sy ws=none:=by
 have key:∀ {a:List (List UInt8)} {w:List UInt8} {b:List (List UInt8)},kcr sy w=none→kee sy (a++w::b)=none:=by
  intro a w b hw
  induction a with
  | nil=>rw [List.nil_append,kee,hw]
  | cons x a ih=>
   rw [List.cons_append,kee]
   cases kcr sy x with
   | none=>rfl
   | some i=>simp only;rw [ih];rfl
 have e:ws=ws.take k++ws[k]::ws.drop (k+1):=by rw [List.getElem_cons_drop,List.take_append_drop]
 rw [e]
 exact key h
theorem k2y {sy:List Sy} {ws:List (List UInt8)} {k:Nat} (hk:k<ws.length) {is:List Int} {i:Nat} (h1:kee sy (ws.take k)=some is) (h2:kcr sy ws[k]=some i):kee sy (ws.take (k+1))=some (is++[(i:Int)]):=by
 rw [List.take_succ_eq_append_getElem hk,kw3,h1,h2]
 rfl
def namQ (sy:List Sy) (w:List UInt8) (ws:List (List UInt8)):(Int×List Int) ⊕ Unit:=match kcr sy w,kee sy ws with
 | some y,some ys => .inl ((y:Int),ys)
 | _,_ => .inr ()
theorem ksi {m:List (BA×Int)} {sy:List Sy} (hm:MapOk m sy) {w:List UInt8} {ws:List (List UInt8)} (hl:ws.length≤70001)
  {v:Int×Int×Int×Int×BA×List Va×BA×List BA} (hv:v.2.2.2.2.2.2.2=(w::ws).map mkB) {step:Int×Int×List Int→Option ((Int×Int×List Int) ⊕ ((Int×List Int) ⊕ Unit))}
  (hs:∀ s,step s=kb7 m v s):kaa step fuel (0,0,[])=some (namQ sy w ws):=by
 rw [show step=kb7 m v from funext hs]
 have hlen:(v.2.2.2.2.2.2.2).length=ws.length+1:=by rw [hv,q8,qk]
 have at0:(v.2.2.2.2.2.2.2)[0]?=some (mkB w):=by rw [hv];rfl
 have atS:∀ k (hk:k<ws.length),(v.2.2.2.2.2.2.2)[k+1]?=some (mkB ws[k]):=fun k hk=>by
  rw [hv,qaf,List.getElem?_cons_succ,List.getElem?_map,List.getElem?_eq_getElem hk];rfl
 refine Ev.eq (kkp (ws.length+1) (fun k s=>(k=0∧s=(0,0,[]))∨∃ j y ys,k=j+1∧kcr sy w=some y∧kee sy (ws.take j)=some ys∧s=(((j+1:Nat):Int),(y:Int),ys)) (by omega) (.inl ⟨rfl,rfl⟩) (fun k s hk hI=>?_) fun s hI=>?_)
 ·rcases hI with ⟨rfl,rfl⟩ | ⟨j,y,ys,rfl,h1,h2,rfl⟩
  ·have hw:=hm w
   unfold kb7
   rw [hlen]
   simp only [qe (show (0:Int)<((ws.length+1:Nat):Int) by omega),qd]
   rw [show idx v.2.2.2.2.2.2.2 0=some (mkB w) from (kap _ 0).trans at0,qa]
   cases hp:kcr sy w with
   | none=>
    rw [hp] at hw
    rw [show mhas m (mkB w)=false from hw.1]
    refine km9 (b := .inr ()) rfl ?_
    unfold namQ;rw [hp]
   | some y=>
    rw [hp] at hw
    rw [show mhas m (mkB w)=true from hw.1,hw.2 y rfl]
    refine kok (s:=(1,(y:Int),[])) rfl (.inr ⟨0,y,[],rfl,rfl,rfl,rfl⟩)
  ·have hj:j<ws.length:=by omega
   have hw:=hm ws[j]
   have hyl:ys.length≤70001:=by
    have:=(knl h2).1
    have:=congrArg List.length this
    rw [q8,qaj] at this
    omega
   unfold kb7
   rw [hlen]
   simp only [qe (show ((j+1:Nat):Int)<((ws.length+1:Nat):Int) by omega),qd,kap,atS j hj,qa,show ((((j+1:Nat):Int)) == 0)=false by rw [qw];omega,w64s (j+1) (by omega)]
   cases hp:kcr sy ws[j] with
   | none=>
    rw [hp] at hw
    rw [show mhas m (mkB ws[j])=false from hw.1]
    refine km9 (b := .inr ()) rfl ?_
    unfold namQ;rw [h1,k26 hj hp]
   | some i=>
    rw [hp] at hw
    rw [show mhas m (mkB ws[j])=true from hw.1,hw.2 i rfl,kho (b:=8) (xs:=ys) (ys:=[(i:Int)]) (by simp only [qk,qq];omega)]
    exact kok (s:=(((j+1+1:Nat):Int),(y:Int),ys++[(i:Int)])) rfl (.inr ⟨j+1,y,ys++[(i:Int)],rfl,h1,k2y hj h2 hp,rfl⟩)
 ·rcases hI with ⟨h,_⟩ | ⟨j,y,ys,h,h1,h2,rfl⟩
  ·omega
  ·obtain rfl:j=ws.length:=by omega
   rw [List.take_length] at h2
   refine kpo (b := .inl ((y:Int),ys)) ?_ (by unfold namQ;rw [h1,h2])
   unfold kb7
   rw [hlen]
   simp only [kgr,qb]
def ruR (ru:List Ru):Int ⊕ Ru→Int×List Ru
 | .inl e=>(e,ru)
 | .inr r=>(0,ru++[r])
theorem k07 {b op:List UInt8} {ws:List (List UInt8)} (h:appL b=some (op,ws)) (hb:b.length≤70000):ws.length≤70001∧op.length≤70000:=by
 unfold appL at h
 split at h
 ·cases h
 ·rename_i o rest hc
  have h1:=kej (by simp) hc
  split at h
  ·split at h
   ·cases h;exact ⟨by simp,by omega⟩
   ·split at h
    ·cases h
     have:=(kni (w:=[44,32]) (s:=rest.dropLast) (by simp) (by rw [List.length_dropLast];omega)).1
     exact ⟨this,by omega⟩
    ·cases h
  ·cases h
theorem kagy (nm:BA) (ins:List Int) {sy:List Sy} {ru:List Ru} {m:List (BA×Int)} (hm:MapOk m sy) (hr:ru.length≤70000) {s:List UInt8} (hs:s.length≤70000):
  kfb nm ins sy ru m (mkB s)=some (ruR ru (ruL sy s)):=by
 unfold kfb ruL
 rw [kafk (by simp) (by omega),qa]
 cases hc:cutW [32,61,32] s with
 | none=>rfl
 | some p=>
  obtain ⟨w,b⟩:=p
  have hlen:=kej (by simp) hc
  simp only [cutR,q9,qb]
  rw [kpe (by rw [kbu];omega),qa]
  by_cases h1:kcw (mkB w)
  ·rw [qe h1,if_pos h1,q9,qa,qb,inp_p,qa]
   unfold rhsL
   cases hi:inpL b with
   | some k=>
    simp only [inpR,qd,qa,qf]
    rw [ksi hm (w:=w) (ws:=[]) (by simp) (v:=(1,(k:Int),0,0,⟨#[]⟩,[],⟨#[]⟩,[mkB w])) rfl (fun _=>rfl),qa]
    unfold namQ
    cases kcr sy w with
    | none=>rfl
    | some y=>
     simp only [kee,qf]
     rw [kho (by simp only [qk,qq];omega)]
     rfl
   | none=>
    simp only [inpR,qb]
    rw [kace (by rw [kbu];omega),qa]
    by_cases hp:(prV (mkB b)).2.2=0
    ·rw [if_pos hp,show ((prV (mkB b)).2.2 == 0)=true by rw [hp];rfl,qd,qa,qf]
     rw [ksi hm (w:=w) (ws:=[]) (by simp) rfl (fun _=>rfl),qa]
     unfold namQ
     cases kcr sy w with
     | none=>rfl
     | some y=>
      simp only [kee,qf]
      rw [kho (by simp only [qk,qq];omega)]
      show some (0,ru++[Ru.mk (y:Int) 2 0 (Va.mk (prV (mkB b)).1.type (prV (mkB b)).1.num (prV (mkB b)).1.text (prV (mkB b)).1.items) ⟨#[]⟩ []])=_
      rw [k8v]
      rfl
    ·rw [if_neg hp,show ((prV (mkB b)).2.2 == 0)=false from beq_false_of_ne hp,qb,app_p (by omega),qa]
     cases ha:appL b with
     | none=>rfl
     | some q=>
      obtain ⟨op,ws⟩:=q
      obtain ⟨l1,l2⟩:=k07 ha (by omega)
      simp only [appR,q9,qb,qaz]
      rw [kho (b:=16) (xs:=[mkB w]) (by simp only [qk,qq,q8];omega),qa,qa,qf]
      rw [ksi hm (w:=w) (ws:=ws) l1 rfl (fun _=>rfl),qa]
      unfold namQ
      cases kcr sy w with
      | none=>rfl
      | some y=>
       cases kee sy ws with
       | none=>rfl
       | some ys=>
        simp only [qf]
        rw [kho (by simp only [qk,qq];omega)]
        rfl
  ·rw [qc h1,if_neg h1];rfl
theorem kab9 {ws:List (List UInt8)} {k:Nat} (hk:k<ws.length) (h:kfi ws[k]=none):tysL ws=none:=by
 have key:∀ {a:List (List UInt8)} {w:List UInt8} {b:List (List UInt8)},kfi w=none→tysL (a++w::b)=none:=by
  intro a w b hw
  induction a with
  | nil=>rw [List.nil_append,tysL,hw]
  | cons x a ih=>
   rw [List.cons_append,tysL]
   cases kfi x with
   | none=>rfl
   | some i=>simp only;rw [ih];rfl
 have e:ws=ws.take k++ws[k]::ws.drop (k+1):=by rw [List.getElem_cons_drop,List.take_append_drop]
 rw [e]
 exact key h
theorem kabe {ws:List (List UInt8)} (hl:ws.length≤70001):Ev (kaa (kd5 (ws.map mkB)) fuel (0,[])) fun r=>match tysL ws with
  | some ts=>r = .inl ts
  | none=>∃ x,r = .inr x:=by
 have hlen:(ws.map mkB).length=ws.length:=q8 ..
 refine kkp ws.length (fun k s=>∃ ts,tysL (ws.take k)=some ts∧s=((k:Int),ts)) (by omega) ⟨[],rfl,rfl⟩ (fun k s hk ⟨ts,h1,e⟩=>?_) fun s ⟨ts,h1,e⟩=>?_
 ·subst e
  have e1:(ws.map mkB)[k]?=some (mkB ws[k]):=by rw [List.getElem?_map,List.getElem?_eq_getElem hk];rfl
  have htl:ts.length≤70001:=by
   have:=congrArg List.length (ks1 h1).1
   rw [q8,qaj] at this
   omega
  unfold kd5
  rw [hlen]
  simp only [kbk hk,qd,kap,e1,qa,pt_p,knv hk (show ws.length≤9223372036854775807 by omega)]
  cases hp:kfi ws[k] with
  | none=>
   refine km9 (b := .inr ts) rfl ?_
   rw [kab9 hk hp]
   exact ⟨ts,rfl⟩
  | some t=>
   simp only [ptR,q9,qb]
   rw [kho (by simp only [qk,qq];omega)]
   refine kok (s:=(((k+1:Nat):Int),ts++[t])) rfl ⟨ts++[t],?_,rfl⟩
   rw [List.take_succ_eq_append_getElem hk,k3w,h1,hp]
   rfl
 ·subst e
  rw [List.take_length] at h1
  rw [h1]
  refine kpo (b := .inl ts) ?_ rfl
  unfold kd5
  rw [hlen]
  simp only [kgr,qb]
abbrev LnR:=Int×BA×List Int×List Sy×List Ru×List (BA×Int)
def LineQ:Int ⊕ La→LnR→Prop
 | .inl e,r=>r.1=e∧e≠0
 | .inr l,r=>∃ m,r=(0,l.name,l.inputs,l.symbols,l.rules,m)∧MapOk m l.symbols
theorem k7s {sy:List Sy} {s:List UInt8} {e:Int} (h:ruL sy s = .inl e):e≠0:=by
 unfold ruL at h
 split at h
 ·cases h;decide
 ·split at h
  ·split at h
   ·cases h;decide
   ·split at h
    ·cases h
    ·cases h;decide
  ·cases h;decide
theorem k1r {w s:List UInt8} (hw:w≠[]):kd0 w s=(match cutW w s with | none=>[s] | some (a,b)=>a::kd0 w b):=by
 cases h:cutW w s with
 | none=>exact kjv h
 | some p=>obtain ⟨a,b⟩:=p;exact kk9 hw h
theorem kabu {α:Type} (x:α) (xs:List α):cutL (x::xs) 1 ((x::xs).length:Int)=some xs:=by
 unfold cutL
 rw [if_pos ⟨by omega,by rw [qk];omega,by omega⟩]
 simp
theorem kagx {n:Nat} {l:La} {m:List (BA×Int)} {s:List UInt8} (hm:MapOk m l.symbols) (hI:n=2→l.inputs=[]) (h1:l.symbols.length≤70000) (h2:l.rules.length≤70000) (hs:s.length≤70000):
  Ev (kfe l.name l.inputs l.symbols l.rules m (n:Int) (mkB s)) (LineQ (kj3 n l s)):=by
 have hsz:(mkB s).size≤4000000:=by rw [kbu];omega
 obtain ⟨nm,ins,sy,ru⟩:=l
 simp only at hm hI h1 h2 ⊢
 unfold kfe
 rw [k1q hsz,kbl,qa,k0u (by simp) (by omega),qa]
 -- the first word,what is behind it,the other words
 obtain ⟨kw,rest,ws,hcut,hsp,hws⟩:∃ kw rest ws,cutR (mkB s) (cutW [32] s)=(mkB kw,mkB rest,(cutW [32] s).isSome)∧kd0 [32] s=kw::ws ∧
   ((cutW [32] s=none∧kw=s∧rest=[]∧ws=[])∨(cutW [32] s=some (kw,rest)∧ws=kd0 [32] rest)):=by
  cases hc:cutW [32] s with
  | none=>exact ⟨s,[],[],rfl,kjv hc, .inl ⟨rfl,rfl,rfl,rfl⟩⟩
  | some p=>obtain ⟨a,b⟩:=p;exact ⟨a,b,kd0 [32] b,rfl,kk9 (by simp) hc, .inr ⟨rfl,rfl⟩⟩
 have hwl:=(kni (w:=[32]) (s:=s) (by simp) hs)
 have hkl:rest.length≤70000:=by
  rcases hws with ⟨_,_,rfl,_⟩ | ⟨hc,_⟩
  ·simp
  ·have:=kej (by simp) hc;omega
 rw [hcut,hsp,qaf,kabu,qa]
 have hwl2:ws.length≤70001:=by have:=hwl.1;rw [hsp,qk] at this;omega
 simp only [krc]
 unfold kj3
 by_cases n1:n=1
 ·subst n1
  rw [if_pos rfl,show (((1:Nat):Int) == 1)=true from rfl,qd]
  by_cases k1:kw=[108,97,110,103,117,97,103,101]
  ·rw [qe k1,q9,qb,kpe (by rw [kbu];omega),qa,qa]
   rcases hws with ⟨hc,_,rfl,_⟩ | ⟨hc,_⟩
   ·rw [hc,qc (fun h:kcw (mkB [])=>absurd h.1.1 (by decide))]
    exact kac ⟨rfl,by decide⟩
   ·rw [hc]
    by_cases k2:kcw (mkB rest)
    ·simp only
     rw [qe k2,if_pos ⟨k1,k2⟩]
     exact kac ⟨m,rfl,hm⟩
    ·simp only
     rw [qc k2,if_neg fun h=>k2 h.2]
     exact kac ⟨rfl,by decide⟩
  ·rw [qc k1,qap,qd,qa,qd,qa]
   rcases hws with ⟨hc,_,rfl,_⟩ | ⟨hc,_⟩
   ·rw [hc];exact kac ⟨rfl,by decide⟩
   ·rw [hc]
    simp only
    rw [if_neg fun h=>k1 h.1]
    exact kac ⟨rfl,by decide⟩
 rw [if_neg n1,show (((n:Nat):Int) == 1)=false by rw [qw];omega,qb]
 by_cases n2:n=2
 ·subst n2
  obtain rfl:=hI rfl
  rw [if_pos rfl,show (((2:Nat):Int) == 2)=true from rfl,qd,hsp,List.head?_cons,List.tail_cons]
  by_cases k1:kw=[105,110,112,117,116,115]
  ·rw [qe k1,q9,qb,if_pos (show some kw=some bInp by rw [k1];rfl)]
   obtain ⟨r,e,hr⟩:=kabe hwl2
   rw [e,qa]
   cases ht:tysL ws with
   | none=>
    rw [ht] at hr
    obtain ⟨x,rfl⟩:=hr
    exact kac ⟨rfl,by decide⟩
   | some ts=>
    rw [ht] at hr
    simp only at hr
    subst hr
    exact kac ⟨m,rfl,hm⟩
  ·rw [qc k1,if_neg (fun h:some kw=some bInp=>k1 (qo h))]
   exact kac ⟨rfl,by decide⟩
 rw [if_neg n2,show (((n:Nat):Int) == 2)=false by rw [qw];omega,qb]
 by_cases k1:kw=[115,121,109,98,111,108]
 ·rw [qe k1,qd]
  by_cases k2:ru=[]
  ·subst k2
   rw [show ((([]:List Ru).length:Int) == 0)=true from rfl,qa,qd]
   rcases hws with ⟨hc,_,rfl,rfl⟩ | ⟨hc,hws⟩
   ·rw [hc]
    exact kac ⟨rfl,by decide⟩
   ·rw [hc]
    simp only
    rw [if_pos ⟨k1,trivial⟩]
    rw [k1r (by simp)] at hws
    cases hc2:cutW [32] rest with
    | none=>
     rw [hc2] at hws
     simp only at hws
     subst hws
     exact kac ⟨rfl,by decide⟩
    | some p=>
     obtain ⟨w,t⟩:=p
     have hl2:=kej (by simp) hc2
     rw [hc2] at hws
     simp only at hws
     rw [k1r (by simp)] at hws
     cases hc3:cutW [32] t with
     | some q=>
      obtain ⟨t1,t2⟩:=q
      rw [hc3] at hws
      simp only at hws
      have hlt:((((w::t1::kd0 [32] t2).map mkB).length:Int) != 2)=true:=by
       rw [bne_iff_ne,q8,qk,qk]
       have:=k1f [32] t2
       have:=List.length_pos_iff.2 this
       omega
      have hty:kfi t=none:=by
       cases ht:kfi t with
       | none=>rfl
       | some y=>
        obtain ⟨e1,e2⟩:=kxz ht
        have h32:(32:UInt8)∈t:=by rw [(cut1_some.1 hc3).1];simp
        rw [e1] at h32
        exact absurd h32 (kafz e2).1
      rw [hws,hlt,qd,qa,qd,qa]
      simp only [hty]
      by_cases k3:kcw (mkB w)
      ·simp only [if_pos k3];exact kac ⟨rfl,by decide⟩
      ·simp only [if_neg k3];exact kac ⟨rfl,by decide⟩
     | none=>
      rw [hc3] at hws
      simp only at hws
      have hlt:((([w,t].map mkB).length:Int) != 2)=false:=rfl
      have i0:idx ([w,t].map mkB) 0=some (mkB w):=rfl
      have i1:idx ([w,t].map mkB) 1=some (mkB t):=rfl
      rw [hws,hlt,qb,i0,i1]
      simp only [qa]
      rw [kpe (by rw [kbu];omega)]
      simp only [qa]
      by_cases k3:kcw (mkB w)
      ·simp only [qe k3,if_pos k3,q9,qb,pt_p,qa]
       cases ht:kfi t with
       | none=>exact kac ⟨rfl,by decide⟩
       | some ty=>
        have hadd:=hm.add w ty
        simp only [ptR,q9,qb]
        rw [kho (by simp only [qk,qq];omega)]
        by_cases hh:mhas m (mkB w)=true
        ·rw [if_pos hh] at hadd
         rw [hh]
         exact kac ⟨m,rfl,hadd⟩
        ·rw [if_neg hh] at hadd
         rw [show mhas m (mkB w)=false from Bool.eq_false_iff.2 hh]
         exact kac ⟨_,rfl,hadd⟩
      ·simp only [qc k3,if_neg k3,qap,qd]
       exact kac ⟨rfl,by decide⟩
  ·have hz:((ru.length:Int) == 0)=false:=by
    rw [qw]
    intro e
    exact k2 (qx (by omega))
   rw [hz,qa,qb,qc (fun e:kw=[114,117,108,101]=>by rw [k1] at e;exact absurd e (by decide)),qb,qa]
   rcases hws with ⟨hc,_,rfl,rfl⟩ | ⟨hc,hws⟩
   ·rw [hc];exact kac ⟨rfl,by decide⟩
   ·rw [hc]
    simp only
    rw [if_neg fun h=>k2 h.2,if_neg (show ¬ kw=kou from fun h=>by rw [k1] at h;exact absurd h (by decide))]
    exact kac ⟨rfl,by decide⟩
 ·rw [qc k1,qb,qa,qb]
  by_cases k2:kw=[114,117,108,101]
  ·rw [qe k2,qd,kagy nm ins hm h2 hkl,qa,qa]
   rcases hws with ⟨hc,_,rfl,rfl⟩ | ⟨hc,hws⟩
   ·rw [hc];exact kac ⟨rfl,by decide⟩
   ·rw [hc]
    simp only
    rw [if_neg fun h=>k1 h.1,if_pos (show kw=kou from k2)]
    cases hr:ruL sy rest with
    | inl e=>exact kac ⟨rfl,k7s hr⟩
    | inr r=>exact kac ⟨m,rfl,hm⟩
  ·rw [qc k2,qb,qa]
   rcases hws with ⟨hc,_,rfl,rfl⟩ | ⟨hc,hws⟩
   ·rw [hc];exact kac ⟨rfl,by decide⟩
   ·rw [hc]
    simp only
    rw [if_neg fun h=>k1 h.1,if_neg (show ¬ kw=kou from k2)]
    exact kac ⟨rfl,by decide⟩
end Go.Proofs.YtaimpcnpifoidaaGreatDoor
