import Derived.Test.YtaimpcnpifoidaaGreatDoorNg
set_option linter.unusedVariables false
set_option linter.unusedSimpArgs false
set_option maxRecDepth 100000
namespace Go.Proofs.YtaimpcnpifoidaaGreatDoor
open Go Go.RowKit
def vis (c:UInt8):Prop:=32≤c.toNat∧c.toNat≤126
def shOk (l:List UInt8):Prop:=(∀ c∈l,vis c)∧l.head?≠some 105∧l.getLast?≠some 41
theorem kw1 {c:UInt8} (h:dig c):vis c∧c≠105∧c≠41:=by
 unfold dig at h
 refine ⟨⟨by omega,by omega⟩,fun e=>?_,fun e=>?_⟩ <;> subst e <;> simp at h
theorem kuc (n:Int):shOk (kdg n):=by
 obtain ⟨d,ds,h1,h2,_⟩:=ktf n.natAbs
 have hl:(d::ds).getLast?≠some 41:=fun e=>by
  have:=List.mem_of_getLast? e
  exact (kw1 (h2 _ this)).2.2 rfl
 unfold kdg
 rw [h1]
 split
 ·refine ⟨fun c hc=>?_,by simp,?_⟩
  ·rcases qs.1 hc with rfl | hc
   ·exact ⟨by decide,by decide⟩
   ·exact (kw1 (h2 c hc)).1
  ·rw [List.getLast?_cons_cons];exact hl
 ·refine ⟨fun c hc=>(kw1 (h2 c hc)).1,?_,hl⟩
  simp only [List.head?_cons]
  intro e
  exact (kw1 (h2 d (qo ..))).2.1 (qq e)
theorem k4z {n:Nat} (h:n<16):vis (hexD n)∧hexD n≠41:=by
 have:∀ k:Fin 16,vis (hexD k.val)∧hexD k.val≠41:=by unfold vis;decide
 exact this ⟨n,h⟩
theorem kx2 {l:List UInt8} (h:∀ c∈l,kjr c=true):∀ c∈kdy l,vis c:=fun c hc=>by
 unfold kdy at hc
 rcases qs.1 hc with rfl | hc
 ·exact ⟨by decide,by decide⟩
 rcases q8.1 hc with hc | hc
 ·obtain ⟨x,hx,hc⟩:=qa3.1 hc
  have hp:=h x hx
  unfold escB at hc
  split at hc
  ·rename_i hq
   rcases qs.1 hc with rfl | hc
   ·exact ⟨by decide,by decide⟩
   ·rw [qan.1 hc]
    rcases hq with rfl | rfl <;> exact ⟨by decide,by decide⟩
  ·try rw [if_pos hp] at hc
   rw [qan.1 hc]
   unfold kjr at hp
   simp at hp
   exact hp
 ·rw [qan.1 hc];exact ⟨by decide,by decide⟩
theorem kxr {P:UInt8→Prop} (h1:P 44) (h2:P 32):∀ {ls:List (List UInt8)},(∀ x∈ls,∀ c∈x,P c)→∀ c∈kaw ls,P c
 | [],_,c,hc=>by cases hc
 | [x],h,c,hc=>h x (qo ..) c hc
 | x::y::l,h,c,hc=>by
  rw [kaw] at hc
  rcases q8.1 hc with hc | hc
  ·exact h x (qo ..) c hc
  rcases qs.1 hc with rfl | hc
  ·exact h1
  rcases qs.1 hc with rfl | hc
  ·exact h2
  ·exact kxr h1 h2 (fun z hz=>h z (qm _ hz)) c hc
theorem kun {a b:UInt8} {l:List UInt8} (ha:vis a) (hb:vis b) (h:∀ c∈l,vis c):∀ c∈a::(l++[b]),vis c:=fun c hc=>by
 rcases qs.1 hc with rfl | hc
 ·exact ha
 rcases q8.1 hc with hc | hc
 ·exact h c hc
 ·rw [qan.1 hc];exact hb
theorem kou {a b:UInt8} {l:List UInt8} (hb:b≠41):(a::(l++[b])).getLast?≠some 41:=by
 rw [← qah,List.getLast?_append]
 simp [hb]
theorem kahl {x:Va} (h:kna x):∀ c∈kae x,vis c:=by
 obtain ⟨n,rfl,_⟩:=h
 simp only [kae]
 exact (kuc n).1
theorem k61 {x:Va} (h:kmm x):∀ c∈kae x,vis c:=by
 obtain ⟨s,rfl,hs⟩:=h
 simp only [kae]
 exact kx2 hs.2.2
theorem v32 {c:UInt8} (h:32≤c.toNat) (h2:c.toNat≤126):vis c:=⟨h,h2⟩
theorem kr4 {l:List Va} (h:∀ x∈l,∀ c∈kae x,vis c):∀ c∈kaw (ki4 l),vis c:=by
 rw [kis]
 refine kxr (v32 (by decide) (by decide)) (v32 (by decide) (by decide)) fun y hy=>?_
 obtain ⟨x,hx,rfl⟩:=qam.1 hy
 exact h x hx
theorem kahz {lo hi:Nat} {x:Va} (h:kpt lo hi x):∀ c∈kae x,vis c:=by
 obtain ⟨l,rfl,_,_,hl⟩:=h
 simp only [kae]
 exact kun (v32 (by decide) (by decide)) (v32 (by decide) (by decide)) (kr4 fun y hy=>k61 (hl y hy))
theorem kxn {x:Va} (h:kg5 x):shOk (kae x):=by
 rcases h with (rfl | rfl) | h | ⟨n,rfl,h0,h1⟩ | ⟨s,rfl,hs⟩ | ⟨s,rfl,hs⟩ | ⟨l,rfl,_,hl⟩ | ⟨l,rfl,_,_,hl⟩ | ⟨l,rfl,_,m,_,_,hl⟩
 ·simp only [kae];unfold shOk vis;decide
 ·simp only [kae];unfold shOk vis;decide
 ·obtain ⟨n,rfl,_⟩:=h
  simp only [kae]
  exact kuc n
 ·simp only [kae]
  have a:=k4z (n:=n.toNat / 16) (by omega)
  have b:=k4z (n:=n.toNat % 16) (by omega)
  refine ⟨fun c hc=>?_,by simp,by simp [b.2]⟩
  simp at hc
  rcases hc with rfl | rfl | rfl | rfl
  ·exact ⟨by decide,by decide⟩
  ·exact ⟨by decide,by decide⟩
  ·exact a.1
  ·exact b.1
 ·simp only [kae]
  exact ⟨kx2 hs.2.2,by simp [kdy],kou (by decide)⟩
 ·simp only [kae]
  refine ⟨fun c hc=>?_,by simp,?_⟩
  ·rcases qs.1 hc with rfl | hc
   ·exact ⟨by decide,by decide⟩
   ·exact kx2 hs.2.2 c hc
  ·show (114::kdy s.data.toList).getLast?≠some 41
   rw [show (114::kdy s.data.toList)=114::34::(s.data.toList.flatMap escB++[34]) from rfl,List.getLast?_cons_cons]
   exact kou (by decide)
 ·simp only [kae]
  exact ⟨kun (v32 (by decide) (by decide)) (v32 (by decide) (by decide)) (kr4 fun y hy=>kahl (hl y hy)),by simp,kou (by decide)⟩
 ·simp only [kae]
  exact ⟨kun (v32 (by decide) (by decide)) (v32 (by decide) (by decide)) (kr4 fun y hy=>k61 (hl y hy)),by simp,kou (by decide)⟩
 ·simp only [kae]
  exact ⟨kun (v32 (by decide) (by decide)) (v32 (by decide) (by decide)) (kr4 fun y hy=>kahz (hl y hy)),by simp,kou (by decide)⟩
theorem kxy {b:List UInt8} (h:(prV (mkB b)).2.2=0):b=kae (prV (mkB b)).1∧kg5 (prV (mkB b)).1:=by
 rcases kabj (mkB b) with ⟨v,h1,h2⟩ | ⟨h1,h2⟩
 ·rw [h2]
  have e:=kz0 (mkB b) oneP 0
  rw [h1,List.drop_zero,kbh] at e
  simp only [kbm,List.drop_length] at e
  obtain ⟨e1,e2⟩:=kaho e
  exact ⟨by rw [List.append_nil] at e1;exact e1,e2⟩
 ·rw [h1] at h
  simp at h
theorem kait {v:Va} (h:kg5 v):prV (mkB (kae v))=(v,0,0):=by
 have h1:=(k8v h).1
 rw [kyi (by rw [kbm];have:=k1d h;omega)] at h1
 exact qq h1
theorem k5j {b:List UInt8} {k:Nat} (h:inpL b=some k):b=105::110::kdg (k:Int)∧k<4:=by
 unfold inpL at h
 split at h
 ·rename_i d
  split at h
  ·rename_i hd
   cases h
   refine ⟨?_,by omega⟩
   unfold kdg
   rw [if_neg (by omega),decN,dif_pos (by simp;omega)]
   congr 3
   apply qav.1
   rw [ofNat_toNat (by simp;omega)]
   simp
   omega
  ·cases h
 ·cases h
theorem kair {k:Nat} (h:k<4):inpL (105::110::kdg (k:Int))=some k:=by
 have:∀ j:Fin 4,inpL (105::110::[UInt8.ofNat (48+j.val)])=some j.val:=by decide
 have e:=this ⟨k,h⟩
 have e2:kdg (k:Int)=[UInt8.ofNat (48+k)]:=by
  unfold kdg
  rw [if_neg (by omega),decN,dif_pos (by simp;omega)]
  simp
 rw [e2];exact e
theorem k4p {b:List UInt8} {k:Nat} (h:inpL b=some k):b.head?=some 105∧b.getLast?≠some 41:=by
 obtain ⟨e,_⟩:=k5j h
 have h2:=(kuc (k:Int)).2.2
 refine ⟨by rw [e];rfl,?_⟩
 rw [e,List.getLast?_cons_cons]
 obtain ⟨d,ds,h1,_⟩:=ktf ((k:Int)).natAbs
 unfold kdg at h2 ⊢
 rw [if_neg (by omega),h1] at h2 ⊢
 rw [List.getLast?_cons_cons]
 exact h2
theorem k1p {l:List UInt8} {c:UInt8} (h:l.getLast?=some c):l=l.dropLast++[c]:=by
 have hne:l≠[]:=fun e=>by rw [e] at h;cases h
 have h1:=List.dropLast_concat_getLast hne
 rw [List.getLast?_eq_some_getLast hne] at h
 cases h
 exact h1.symm
theorem kaeu {b op:List UInt8} {aw:List (List UInt8)} (h:appL b=some (op,aw)):kbt (mkB op)∧b=op++(40::(kaw aw++[41]))∧∀ a∈aw,kbt (mkB a):=by
 unfold appL at h
 split at h
 ·cases h
 ·rename_i o rest hc
  obtain ⟨e1,_⟩:=cut1_some.1 hc
  split at h
  ·rename_i hn
   have e2:=k1p hn.2
   split at h
   ·rename_i hd
    cases h
    refine ⟨hn.1,?_,by simp⟩
    rw [e1,e2,hd];rfl
   ·split at h
    ·rename_i hall
     cases h
     refine ⟨hn.1,?_,hall⟩
     rw [klk,kue (by simp) _ _ (qw _),← e2]
     exact e1
    ·cases h
  ·cases h
theorem kaiu {op:List UInt8} {aw:List (List UInt8)} (h1:kbt (mkB op)) (h2:∀ a∈aw,kbt (mkB a)) (h3:aw≠[]):appL (op++(40::(kaw aw++[41])))=some (op,aw):=by
 have hc:cutW [40] (op++(40::(kaw aw++[41])))=some (op,kaw aw++[41]):=cut1_some.2 ⟨rfl,(kkg h1).2.2.1⟩
 have hne:kaw aw≠[]:=fun e=>by
  cases aw with
  | nil=>exact h3 rfl
  | cons a l=>
   have ha:=(k25 (h2 a (qo ..))).1
   have:kaw (a::l)=a++kft id l:=by have:=kkl id l a;rwa [List.map_id] at this
   rw [this] at e
   have:=(List.append_eq_nil_iff.1 e).1
   rw [this] at ha
   simp at ha
 have hs:kdk [44,32] (kaw aw)=aw:=by
  rw [klk]
  exact kut h3 fun a ha=>(kkg (h2 a ha)).2.2.2.2
 unfold appL
 rw [hc]
 simp only
 rw [if_pos ⟨h1,by simp⟩,List.dropLast_concat,if_neg hne,hs,if_pos h2]
theorem kafi {sy:List Sy} {b op:List UInt8} {k i:Int} {v:Va} {aw:List (List UInt8)} {is:List Int} {y:Int} (h:rhsL b=some (k,i,v,op,aw)) (h2:kds sy aw=some is):b=rhsT sy (Ru.mk y k i v (mkB op) is):=by
 unfold rhsL at h
 unfold rhsT
 split at h
 ·rename_i j hj
  cases h
  obtain ⟨e,_⟩:=k5j hj
  rw [if_neg (by simp)]
  unfold kk3
  rw [if_pos rfl]
  exact e
 ·split at h
  ·rename_i hp
   cases h
   obtain ⟨e,_⟩:=kxy hp
   rw [if_neg (by simp)]
   unfold kk3
   rw [if_neg (by simp)]
   exact e
  ·obtain ⟨⟨o,a2⟩,h3,h4⟩:=qk.1 h
   cases h4
   obtain ⟨_,e,_⟩:=kaeu h3
   rw [if_pos rfl]
   obtain ⟨e3,_⟩:=kok h2
   have e4:a2=is.map (kb1 sy):=e3
   rw [e,← e4]
   show _=bsOf (mkB o)++_
   rw [show bsOf (mkB o)=o from kbh o]
theorem kaii {sy:List Sy} {s:List UInt8} {r:Ru} (h:ruL sy s = .inr r):kmj++(32::s)=ruT sy r:=by
 unfold ruL at h
 split at h
 ·cases h
 ·rename_i w b hc
  split at h
  ·split at h
   ·cases h
   ·rename_i k i v op aw hr
    split at h
    ·rename_i y ys hy hys
     cases h
     obtain ⟨e1,_⟩:=k0t (by simp) hc
     obtain ⟨h2,h3⟩:=kuf hy
     unfold ruT
     rw [← kafi hr hys,e1]
     rw [show kb1 sy (y:Int)=w by rw [klu h2,h3]]
    ·cases h
  ·cases h
structure StInv (n:Nat) (l:La):Prop where
 none:n=0→l.name=⟨#[]⟩
 ins:n≤1→l.inputs=[]
 syms:n≤2→l.symbols=[]
 ruls:n≤2→l.rules=[]
def preT (n:Nat) (l:La):List UInt8:=if n=0 then [] else if n=1 then nmT l.name++[10] else kj0 l
theorem kaax {n:Nat} {l l':La} {s:List UInt8} (hI:StInv n l) (h:kjc (n+1) l s = .inr l'):StInv (n+1) l'∧preT (n+1) l'=preT n l++(s++[10]):=by
 unfold kjc at h
 by_cases h1:n+1=1
 ·rw [if_pos h1] at h
  obtain rfl:n=0:=by omega
  split at h
  ·cases h
  ·rename_i k r hc
   split at h
   ·rename_i hk
    cases h
    obtain ⟨e1,_⟩:=cut1_some.1 hc
    refine ⟨⟨fun h=>by omega,fun _=>hI.ins (by omega),fun _=>hI.syms (by omega),fun _=>hI.ruls (by omega)⟩,?_⟩
    unfold preT
    rw [if_neg (by omega),if_pos rfl,if_pos rfl,qa7,e1,hk.1]
    show nmT (mkB r)++[10]=_
    unfold nmT
    rw [show bsOf (mkB r)=r from kbh r]
   ·cases h
 ·rw [if_neg h1] at h
  by_cases h2:n+1=2
  ·rw [if_pos h2] at h
   obtain rfl:n=1:=by omega
   split at h
   ·rename_i hk
    split at h
    ·cases h
    ·rename_i ts ht
     cases h
     refine ⟨⟨fun h=>by omega,fun h=>by omega,fun _=>hI.syms (by omega),fun _=>hI.ruls (by omega)⟩,?_⟩
     obtain ⟨e2,_⟩:=kuq ht
     have e3:s=inT ts:=by
      have e4:=kue (w:=[32]) (by simp) _ s (qw _)
      cases hs:kdk [32] s with
      | nil=>rw [hs] at hk;cases hk
      | cons x t=>
       rw [hs] at hk e2 e4
       simp only [List.head?_cons,qj] at hk
       simp only [List.tail_cons] at e2
       rw [← e4,ktr,hk,e2]
       unfold inT
       rw [List.flatMap_map]
     unfold preT
     rw [if_neg (by omega),if_neg (by omega),if_neg (by omega),if_pos rfl]
     unfold kj0
     simp only
     rw [hI.syms (by omega),hI.ruls (by omega),e3]
     simp [sysT,rusT]
   ·cases h
  ·rw [if_neg h2] at h
   have hn:2≤n:=by omega
   have pre:∀ l,preT (n+1) l=kj0 l∧preT n l=kj0 l:=fun l=>by
    unfold preT
    exact ⟨by rw [if_neg (by omega),if_neg (by omega)],by rw [if_neg (by omega),if_neg (by omega)]⟩
   rw [(pre l).2,(pre l').1]
   split at h
   ·cases h
   ·rename_i k r hc
    obtain ⟨e1,_⟩:=cut1_some.1 hc
    split at h
    ·rename_i hk
     split at h
     ·cases h
     ·rename_i w t hc2
      obtain ⟨e2,_⟩:=cut1_some.1 hc2
      split at h
      ·split at h
       ·cases h
       ·rename_i ty hty
        cases h
        refine ⟨⟨fun h=>by omega,fun h=>by omega,fun h=>by omega,fun h=>by omega⟩,?_⟩
        obtain ⟨e3,_⟩:=k0n hty
        unfold kj0
        simp only
        rw [hk.2,e1,e2,hk.1,e3]
        simp [sysT,rusT,syT,show bsOf (mkB w)=w from kbh w]
      ·cases h
    ·split at h
     ·rename_i hk
      split at h
      ·cases h
      ·rename_i ru hru
       cases h
       refine ⟨⟨fun h=>by omega,fun h=>by omega,fun h=>by omega,fun h=>by omega⟩,?_⟩
       have e3:=kaii hru
       unfold kj0
       simp only
       rw [e1,hk,e3]
       simp [rusT]
     ·cases h
theorem kpy {n:Nat} {l l':La} {a b:List UInt8} (h:(10:UInt8)∉a) (h2:kjc (n+1) l a = .inr l'):kh7 n l (a++(10::b))=kh7 (n+1) l' b:=by
 rw [kp4 n l (cut1_some.2 ⟨rfl,h⟩),h2]
theorem k2k:opNames.all (fun s=>decide (kbt s))=true:=by kernel_rfl
theorem kaek {s:BA} {o:S_api_Operator} (h:kbk s=some (o,true)):kbt s:=by
 have:=qp.1 k2k s (k0r h)
 exact qaf this
theorem kvl {l:La} (hv:ValidL l) {i:Int} (h:0≤i∧i<(l.symbols.length:Int)):kbt (mkB (kb1 l.symbols i)):=by
 obtain ⟨k,rfl⟩:∃ k:Nat,i=(k:Int):=⟨i.toNat,by omega⟩
 have hk:k<l.symbols.length:=by omega
 rw [klu hk,kfw]
 exact hv.names k hk
theorem kaiw {l:La} (hl:kga l) (hv:ValidL l) {r:Ru} (hr:r∈l.rules):∃ k i v op aw,rhsL (rhsT l.symbols r)=some (k,i,v,op,aw)∧kds l.symbols aw=some r.args∧r.kind=k∧r.input=i∧r.const=v∧r.op=mkB op∧∀ c∈rhsT l.symbols r,c≠10:=by
 obtain ⟨j,hj,rfl⟩:=qu.1 hr
 have hV:=hv.valid j hj
 have hone:=hv.one
 have hone:=hone l.rules[j] hr
 generalize l.rules[j]=r at *
 obtain ⟨⟨s0,s1⟩,hV⟩:=hV
 have hin:=hv.inputs
 have okL:=hv.okL hl
 unfold rhsT
 rcases hV with ⟨e,e2,e3,e4,e5,_⟩ | ⟨e,e2,e3,e4,e5,_⟩ | ⟨e,e2,e3,o,e4,e5,e6,_⟩
 ·obtain ⟨k,hk⟩:∃ k:Nat,r.input=(k:Int):=⟨r.input.toNat,by omega⟩
  rw [if_neg (by omega)]
  unfold kk3
  rw [if_pos e,hk]
  refine ⟨1,(k:Int),kc8,[],[],?_,by rw [e4];rfl,e,rfl,e2,e3,fun c hc=>?_⟩
  ·unfold rhsL
   rw [kair (by omega)]
  ·intro e'; subst e'
   rcases qs.1 hc with h | hc
   ·exact absurd h (by decide)
   rcases qs.1 hc with h | hc
   ·exact absurd h (by decide)
   ·exact absurd ((kuc (k:Int)).1 _ hc).1 (by decide)
 ·have hval:kg5 r.const:=(okL.val hr (by omega) (by omega)).2
  rw [if_neg (by omega)]
  unfold kk3
  rw [if_neg (by omega)]
  refine ⟨2,0,r.const,[],[],?_,by rw [e4];rfl,e,e2,rfl,e3,fun c hc e'=>?_⟩
  ·unfold rhsL
   have hi:inpL (kae r.const)=none:=by
    cases hi:inpL (kae r.const) with
    | none=>rfl
    | some k=>exact absurd (k4p hi).1 (kxn hval).2.1
   rw [hi,kait hval]
   rfl
  ·subst e'
   exact absurd ((kxn hval).1 _ hc).1 (by decide)
 ·rw [if_pos e]
  have ho:=kaek e4
  have ha:∀ i∈r.args,0≤i∧i<(l.symbols.length:Int):=fun i hi=>by
   obtain ⟨q,hq,rfl⟩:=qu.1 hi
   exact (e6 q hq).1
  have hn:∀ a∈r.args.map (kb1 l.symbols),kbt (mkB a):=fun a h=>by
   obtain ⟨i,hi,rfl⟩:=qam.1 h
   exact kvl hv (ha i hi)
  have hne:r.args.map (kb1 l.symbols)≠[]:=fun e'=>by
   have:=List.map_eq_nil_iff.1 e'
   have h1:=hone e
   rw [this] at h1
   simp at h1
  have hlast:(bsOf r.op++(40::(kaw (r.args.map (kb1 l.symbols))++[41]))).getLast?=some 41:=by
   rw [show bsOf r.op++(40::(kaw (r.args.map (kb1 l.symbols))++[41]))=(bsOf r.op++40::kaw (r.args.map (kb1 l.symbols)))++[41] by simp,List.getLast?_concat]
  have hname:kbt (mkB (bsOf r.op)):=by rw [kfw];exact ho
  refine ⟨3,0,kc8,bsOf r.op,r.args.map (kb1 l.symbols),?_,kyv hv.once ha,e,e2,e3,(kfw r.op).symm,fun c hc e'=>?_⟩
  ·unfold rhsL
   have hi:inpL (bsOf r.op++(40::(kaw (r.args.map (kb1 l.symbols))++[41])))=none:=by
    cases hi:inpL (bsOf r.op++(40::(kaw (r.args.map (kb1 l.symbols))++[41]))) with
    | none=>rfl
    | some k=>exact absurd hlast (k4p hi).2
   have hp:(prV (mkB (bsOf r.op++(40::(kaw (r.args.map (kb1 l.symbols))++[41]))))).2.2≠0:=fun h=>by
    obtain ⟨q1,q2⟩:=kxy h
    have:=(kxn q2).2.2
    rw [← q1] at this
    exact this hlast
   rw [hi]
   simp only
   rw [if_neg hp,kaiu hname hn hne]
   rfl
  ·subst e'
   rcases q8.1 hc with hc | hc
   ·exact (kkg hname).2.1 hc
   rcases qs.1 hc with h | hc
   ·exact absurd h (by decide)
   rcases q8.1 hc with hc | hc
   ·refine kxr (P:=fun c=>c≠10) (by decide) (by decide) (fun x hx c hc=>?_) _ hc rfl
    intro e'; subst e'
    exact (kkg (hn x hx)).2.1 hc
   ·exact absurd (qan.1 hc) (by decide)
theorem kaju {l:La} (hl:kga l) (hv:ValidL l) {r:Ru} (hr:r∈l.rules):(∃ s,ruT l.symbols r=kmj++(32::s)∧ruL l.symbols s = .inr r)∧(10:UInt8)∉ruT l.symbols r:=by
 obtain ⟨k,i,v,op,aw,h1,h2,h3,h4,h5,h6,h7⟩:=kaiw hl hv hr
 obtain ⟨j,hj,e⟩:=qu.1 hr
 have hs:=(hv.valid j hj).1
 rw [e] at hs
 have hn:=kvl hv hs
 refine ⟨⟨_,rfl,?_⟩,fun hc=>?_⟩
 ·obtain ⟨q,hq⟩:∃ q:Nat,r.symbol=(q:Int):=⟨r.symbol.toNat,by omega⟩
  have hq':q<l.symbols.length:=by omega
  unfold ruL
  rw [k00 (kkg hn).1]
  simp only
  rw [if_pos hn,h1]
  simp only
  have:kb7 l.symbols (kb1 l.symbols r.symbol)=some q:=by rw [hq,klu hq'];exact kxq hq' hv.once
  rw [this,h2]
  simp only
  rw [← h6,← h3,← h4,← h5,← hq]
 ·unfold ruT at hc
  rcases q8.1 hc with hc | hc
  ·exact absurd hc (by decide)
  rcases qs.1 hc with h | hc
  ·exact absurd h (by decide)
  rcases q8.1 hc with hc | hc
  ·exact (kkg hn).2.1 hc
  rcases q8.1 hc with hc | hc
  ·exact absurd hc (by decide)
  ·exact h7 _ hc rfl
theorem k64 {nm:BA} {ins:List Int} (tail:List UInt8):∀ (todo:List Sy) (n:Nat) (done:List Sy),2≤n→(∀ x∈todo,kbt x.name∧kin x.type) →
  kh7 n ⟨nm,ins,done,[]⟩ (sysT todo++tail)=kh7 (n+todo.length) ⟨nm,ins,done++todo,[]⟩ tail
 | [],n,done,_,_=>by simp [sysT]
 | x::todo,n,done,hn,h=>by
  obtain ⟨h1,h2⟩:=h x (qo ..)
  have h1':kbt (mkB (bsOf x.name)):=name_bs.1 h1
  have e:sysT (x::todo)++tail=syT x++(10::(sysT todo++tail)):=by simp [sysT]
  rw [e,kpy (l':=⟨nm,ins,done++[x],[]⟩) (fun hc=>?_) ?_]
  ·rw [k64 tail todo (n+1) (done++[x]) (by omega) fun y hy=>h y (qm _ hy)]
   rw [qag,qi,show n+1+todo.length=n+(todo.length+1) by omega]
   rfl
  ·unfold kjc syT
   rw [if_neg (by omega),if_neg (by omega),cut1_some.2 ⟨rfl,by decide⟩]
   simp only
   rw [if_pos ⟨trivial,trivial⟩,cut1_some.2 ⟨rfl,(kkg h1').1⟩]
   simp only
   rw [if_pos h1',kaa8 h2,kfw]
  ·unfold syT at hc
   rcases q8.1 hc with hc | hc
   ·exact absurd hc (by decide)
   rcases qs.1 hc with h | hc
   ·exact absurd h (by decide)
   rcases q8.1 hc with hc | hc
   ·exact (kkg h1').2.1 hc
   rcases qs.1 hc with h | hc
   ·exact absurd h (by decide)
   ·exact (k0d h2).2 hc
theorem k69 {nm:BA} {ins:List Int} {sy:List Sy}:∀ (todo:List Ru) (n:Nat) (done:List Ru),2≤n→(∀ r∈todo,(∃ s,ruT sy r=kmj++(32::s)∧ruL sy s = .inr r)∧(10:UInt8)∉ruT sy r) →
  kh7 n ⟨nm,ins,sy,done⟩ (rusT sy todo) = .inr (n+todo.length,⟨nm,ins,sy,done++todo⟩)
 | [],n,done,_,_=>by simp [rusT,k1v]
 | x::todo,n,done,hn,h=>by
  obtain ⟨⟨s,h1,h2⟩,h3⟩:=h x (qo ..)
  have e:rusT sy (x::todo)=ruT sy x++(10::rusT sy todo):=by simp [rusT]
  rw [e,kpy (l':=⟨nm,ins,sy,done++[x]⟩) h3 ?_]
  ·rw [k69 todo (n+1) (done++[x]) (by omega) fun y hy=>h y (qm _ hy)]
   rw [qag,qi,show n+1+todo.length=n+(todo.length+1) by omega]
   rfl
  ·unfold kjc
   rw [if_neg (by omega),if_neg (by omega),h1,cut1_some.2 ⟨rfl,by decide⟩]
   simp only
   rw [if_neg (fun h=>absurd h.1 (by decide)),if_pos trivial,h2]
theorem kae2 {l:La} (hl:kga l) (hv:ValidL l):kh7 0 laD (kj0 l) = .inr (2+l.symbols.length+l.rules.length,l):=by
 have hn:=name_bs.1 hv.name
 have hty:∀ t∈l.inputs,kin t:=fun t ht=>by
  obtain ⟨i,hi,rfl⟩:=qu.1 ht
  exact hv.typs i hi
 unfold kj0
 rw [kpy (l':=⟨l.name,[],[],[]⟩) (fun hc=>?_) ?_,kpy (l':=⟨l.name,l.inputs,[],[]⟩) (fun hc=>?_) ?_,k64 _ l.symbols 2 [] (by omega) ?_,qa7,k69 l.rules _ [] (by omega) ?_,qa7]
 ·intro r hr
  exact kaju hl hv hr
 ·intro x hx
  obtain ⟨i,hi,rfl⟩:=qu.1 hx
  exact ⟨hv.names i hi,hv.types i hi⟩
 ·have e:inT l.inputs=kcn [32] (bInp::l.inputs.map tyW):=by rw [ktr,List.flatMap_map];rfl
  have e2:kdk [32] (inT l.inputs)=bInp::l.inputs.map tyW:=by
   rw [e]
   refine kut (by simp) fun x hx=>?_
   rcases qs.1 hx with rfl | hx
   ·decide
   ·obtain ⟨t,ht,rfl⟩:=qam.1 hx
    exact (k0d (hty t ht)).1
  unfold kjc
  rw [if_neg (by omega),if_pos rfl,e2,if_pos (show (bInp::l.inputs.map tyW).head?=some bInp from rfl),List.tail_cons,k7n hty]
 ·unfold inT at hc
  rcases q8.1 hc with hc | hc
  ·exact absurd hc (by decide)
  ·obtain ⟨t,ht,hc⟩:=qa3.1 hc
   rcases qs.1 hc with h | hc
   ·exact absurd h (by decide)
   ·exact (k0d (hty t ht)).2 hc
 ·unfold kjc nmT
  rw [if_pos rfl,cut1_some.2 ⟨rfl,by decide⟩]
  simp only
  rw [if_pos ⟨trivial,hn⟩,kfw]
  rfl
 ·unfold nmT at hc
  rcases q8.1 hc with hc | hc
  ·exact absurd hc (by decide)
  rcases qs.1 hc with h | hc
  ·exact absurd h (by decide)
  ·exact (kkg hn).2.1 hc
end Go.Proofs.YtaimpcnpifoidaaGreatDoor
