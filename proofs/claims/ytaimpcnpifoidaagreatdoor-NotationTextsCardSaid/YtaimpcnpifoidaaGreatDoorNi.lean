import Derived.Test.YtaimpcnpifoidaaGreatDoorNg
set_option linter.unusedVariables false
set_option linter.unusedSimpArgs false
set_option maxRecDepth 100000
namespace Go.Proofs.YtaimpcnpifoidaaGreatDoor
open Go Go.RowKit
def vis (c:UInt8):Prop:=32≤c.toNat∧c.toNat≤126
def shOk (l:List UInt8):Prop:=(∀ c∈l,vis c)∧l.head?≠some 105∧l.getLast?≠some 41
theorem kv9 {c:UInt8} (h:dig c):vis c∧c≠105∧c≠41:=by
 unfold dig at h
 refine ⟨⟨by omega,by omega⟩,fun e=>?_,fun e=>?_⟩ <;> subst e <;> simp at h
theorem kxv (n:Int):shOk (khf n):=by
 obtain ⟨d,ds,h1,h2,_⟩:=k0d n.natAbs
 have hl:(d::ds).getLast?≠some 41:=fun e=>by
  have:=List.mem_of_getLast? e
  exact (kv9 (h2 _ this)).2.2 rfl
 unfold khf
 rw [h1]
 split
 ·refine ⟨fun c hc=>?_,by simp,?_⟩
  ·rcases qz.1 hc with rfl | hc
   ·exact ⟨by decide,by decide⟩
   ·exact (kv9 (h2 c hc)).1
  ·rw [List.getLast?_cons_cons];exact hl
 ·refine ⟨fun c hc=>(kv9 (h2 c hc)).1,?_,hl⟩
  simp only [List.head?_cons]
  intro e
  exact (kv9 (h2 d (qr ..))).2.1 (qm e)
theorem k20 {n:Nat} (h:n<16):vis (hexD n)∧hexD n≠41:=by
 have:∀ k:Fin 16,vis (hexD k.val)∧hexD k.val≠41:=by unfold vis;decide
 exact this ⟨n,h⟩
theorem kyl {l:List UInt8} (h:∀ c∈l,kmd c=true):∀ c∈kfy l,vis c:=fun c hc=>by
 unfold kfy at hc
 rcases qz.1 hc with rfl | hc
 ·exact ⟨by decide,by decide⟩
 rcases qab.1 hc with hc | hc
 ·obtain ⟨x,hx,hc⟩:=List.mem_flatMap.1 hc
  have hp:=h x hx
  unfold escB at hc
  split at hc
  ·rename_i hq
   rcases qz.1 hc with rfl | hc
   ·exact ⟨by decide,by decide⟩
   ·rw [qak.1 hc]
    rcases hq with rfl | rfl <;> exact ⟨by decide,by decide⟩
  ·try rw [if_pos hp] at hc
   rw [qak.1 hc]
   unfold kmd at hp
   simp at hp
   exact hp
 ·rw [qak.1 hc];exact ⟨by decide,by decide⟩
theorem k4b {P:UInt8→Prop} (h1:P 44) (h2:P 32):∀ {ls:List (List UInt8)},(∀ x∈ls,∀ c∈x,P c)→∀ c∈kdh ls,P c
 | [],_,c,hc=>by cases hc
 | [x],h,c,hc=>h x (qr ..) c hc
 | x::y::l,h,c,hc=>by
  rw [kdh] at hc
  rcases qab.1 hc with hc | hc
  ·exact h x (qr ..) c hc
  rcases qz.1 hc with rfl | hc
  ·exact h1
  rcases qz.1 hc with rfl | hc
  ·exact h2
  ·exact k4b h1 h2 (fun z hz=>h z (ql _ hz)) c hc
theorem kuh {a b:UInt8} {l:List UInt8} (ha:vis a) (hb:vis b) (h:∀ c∈l,vis c):∀ c∈a::(l++[b]),vis c:=fun c hc=>by
 rcases qz.1 hc with rfl | hc
 ·exact ha
 rcases qab.1 hc with hc | hc
 ·exact h c hc
 ·rw [qak.1 hc];exact hb
theorem ko9 {a b:UInt8} {l:List UInt8} (hb:b≠41):(a::(l++[b])).getLast?≠some 41:=by
 rw [← List.cons_append,List.getLast?_append]
 simp [hb]
theorem kaf4 {x:Va} (h:kt6 x):∀ c∈kal x,vis c:=by
 obtain ⟨n,rfl,_⟩:=h
 simp only [kal]
 exact (kxv n).1
theorem k6m {x:Va} (h:kr0 x):∀ c∈kal x,vis c:=by
 obtain ⟨s,rfl,hs⟩:=h
 simp only [kal]
 exact kyl hs.2.2
theorem v32 {c:UInt8} (h:32≤c.toNat) (h2:c.toNat≤126):vis c:=⟨h,h2⟩
theorem kr7 {l:List Va} (h:∀ x∈l,∀ c∈kal x,vis c):∀ c∈kdh (kng l),vis c:=by
 rw [kl2]
 refine k4b (v32 (by decide) (by decide)) (v32 (by decide) (by decide)) fun y hy=>?_
 obtain ⟨x,hx,rfl⟩:=qaq.1 hy
 exact h x hx
theorem kaha {lo hi:Nat} {x:Va} (h:kwk lo hi x):∀ c∈kal x,vis c:=by
 obtain ⟨l,rfl,_,_,hl⟩:=h
 simp only [kal]
 exact kuh (v32 (by decide) (by decide)) (v32 (by decide) (by decide)) (kr7 fun y hy=>k6m (hl y hy))
theorem kab4 {x:Va} (h:krn x):shOk (kal x):=by
 rcases h with (rfl | rfl) | h | ⟨n,rfl,h0,h1⟩ | ⟨s,rfl,hs⟩ | ⟨s,rfl,hs⟩ | ⟨l,rfl,_,hl⟩ | ⟨l,rfl,_,_,hl⟩ | ⟨l,rfl,_,m,_,_,hl⟩
 ·simp only [kal];unfold shOk vis;decide
 ·simp only [kal];unfold shOk vis;decide
 ·obtain ⟨n,rfl,_⟩:=h
  simp only [kal]
  exact kxv n
 ·simp only [kal]
  have a:=k20 (n:=n.toNat / 16) (by omega)
  have b:=k20 (n:=n.toNat % 16) (by omega)
  refine ⟨fun c hc=>?_,by simp,by simp [b.2]⟩
  simp at hc
  rcases hc with rfl | rfl | rfl | rfl
  ·exact ⟨by decide,by decide⟩
  ·exact ⟨by decide,by decide⟩
  ·exact a.1
  ·exact b.1
 ·simp only [kal]
  exact ⟨kyl hs.2.2,by simp [kfy],ko9 (by decide)⟩
 ·simp only [kal]
  refine ⟨fun c hc=>?_,by simp,?_⟩
  ·rcases qz.1 hc with rfl | hc
   ·exact ⟨by decide,by decide⟩
   ·exact kyl hs.2.2 c hc
  ·show (114::kfy s.data.toList).getLast?≠some 41
   rw [show (114::kfy s.data.toList)=114::34::(s.data.toList.flatMap escB++[34]) from rfl,List.getLast?_cons_cons]
   exact ko9 (by decide)
 ·simp only [kal]
  exact ⟨kuh (v32 (by decide) (by decide)) (v32 (by decide) (by decide)) (kr7 fun y hy=>kaf4 (hl y hy)),by simp,ko9 (by decide)⟩
 ·simp only [kal]
  exact ⟨kuh (v32 (by decide) (by decide)) (v32 (by decide) (by decide)) (kr7 fun y hy=>k6m (hl y hy)),by simp,ko9 (by decide)⟩
 ·simp only [kal]
  exact ⟨kuh (v32 (by decide) (by decide)) (v32 (by decide) (by decide)) (kr7 fun y hy=>kaha (hl y hy)),by simp,ko9 (by decide)⟩
theorem kx2 {b:List UInt8} (h:(prV (mkB b)).2.2=0):b=kal (prV (mkB b)).1∧krn (prV (mkB b)).1:=by
 rcases kais (mkB b) with ⟨v,h1,h2⟩ | ⟨h1,h2⟩
 ·rw [h2]
  have e:=k4f (mkB b) oneP 0
  rw [h1,qav,kay] at e
  simp only [kaj,List.drop_length] at e
  obtain ⟨e1,e2⟩:=kahw e
  exact ⟨by rw [List.append_nil] at e1;exact e1,e2⟩
 ·rw [h1] at h
  simp at h
theorem k4r {b:List UInt8} {k:Nat} (h:inpL b=some k):b=105::110::khf (k:Int)∧k<4:=by
 unfold inpL at h
 split at h
 ·rename_i d
  split at h
  ·rename_i hd
   cases h
   refine ⟨?_,by omega⟩
   unfold khf
   rw [if_neg (by omega),decN,dif_pos (by simp;omega)]
   congr 3
   apply qay.1
   rw [ofNat_toNat (by simp;omega)]
   simp
   omega
  ·cases h
 ·cases h
theorem kab1 {b:List UInt8} {k:Nat} (h:inpL b=some k):b.head?=some 105∧b.getLast?≠some 41:=by
 obtain ⟨e,_⟩:=k4r h
 have h2:=(kxv (k:Int)).2.2
 refine ⟨by rw [e];rfl,?_⟩
 rw [e,List.getLast?_cons_cons]
 obtain ⟨d,ds,h1,_⟩:=k0d ((k:Int)).natAbs
 unfold khf at h2 ⊢
 rw [if_neg (by omega),h1] at h2 ⊢
 rw [List.getLast?_cons_cons]
 exact h2
theorem kagv {b:List UInt8} {k:Nat} (h:inpL b=some k):(prV (mkB b)).2.2≠0:=fun h2=>by
 obtain ⟨e1,e2⟩:=kx2 h2
 have h3:=(kab4 e2).2.1
 rw [← e1] at h3
 exact h3 (kab1 h).1
theorem kvk {l:List UInt8} {c:UInt8} (h:l.getLast?=some c):l=l.dropLast++[c]:=by
 have hne:l≠[]:=fun e=>by rw [e] at h;cases h
 have h1:=List.dropLast_concat_getLast hne
 rw [List.getLast?_eq_some_getLast hne] at h
 cases h
 exact h1.symm
theorem kacb {b op:List UInt8} {aw:List (List UInt8)} (h:appL b=some (op,aw)):kb3 (mkB op)∧b=op++(40::(kdh aw++[41]))∧∀ a∈aw,kb3 (mkB a):=by
 unfold appL at h
 split at h
 ·cases h
 ·rename_i o rest hc
  obtain ⟨e1,_⟩:=cut1_some.1 hc
  split at h
  ·rename_i hn
   have e2:=kvk hn.2
   split at h
   ·rename_i hd
    cases h
    refine ⟨hn.1,?_,by simp⟩
    rw [e1,e2,hd];rfl
   ·split at h
    ·rename_i hall
     cases h
     refine ⟨hn.1,?_,hall⟩
     rw [k2l,kuf (by simp) _ _ (qw _),← e2]
     exact e1
    ·cases h
  ·cases h
theorem kab2 {sy:List Sy} {b op:List UInt8} {k i:Int} {v:Va} {aw:List (List UInt8)} {is:List Int} {y:Int} (h:rhsL b=some (k,i,v,op,aw)) (h2:kc4 sy aw=some is):b=rhsT sy (Ru.mk y k i v (mkB op) is):=by
 unfold rhsL at h
 unfold rhsT
 split at h
 ·rename_i j hj
  cases h
  obtain ⟨e,_⟩:=k4r hj
  rw [if_neg (by simp)]
  unfold k74
  rw [if_pos rfl]
  exact e
 ·split at h
  ·rename_i hp
   cases h
   obtain ⟨e,_⟩:=kx2 hp
   rw [if_neg (by simp)]
   unfold k74
   rw [if_neg (by simp)]
   exact e
  ·obtain ⟨⟨o,a2⟩,h3,h4⟩:=qi.1 h
   cases h4
   obtain ⟨_,e,_⟩:=kacb h3
   rw [if_pos rfl]
   obtain ⟨e3,_⟩:=kmm h2
   have e4:a2=is.map (kq7 sy):=e3
   rw [e,← e4]
   show _=bsOf (mkB o)++_
   rw [show bsOf (mkB o)=o from kay o]
theorem kag5 {sy:List Sy} {s:List UInt8} {r:Ru} (h:ruL sy s = .inr r):kse++(32::s)=ruT sy r:=by
 unfold ruL at h
 split at h
 ·cases h
 ·rename_i w b hc
  split at h
  ·split at h
   ·cases h
   ·rename_i k i v op aw hr
    split at h
    ·rename_i y ys hy hys
     cases h
     obtain ⟨e1,_⟩:=kqb (by simp) hc
     obtain ⟨h2,h3⟩:=ktr hy
     unfold ruT
     rw [← kab2 hr hys,e1]
     rw [show kq7 sy (y:Int)=w by rw [kz2 h2,h3]]
    ·cases h
  ·cases h
structure StInv (n:Nat) (l:La):Prop where
 none:n=0→l.name=⟨#[]⟩
 ins:n≤1→l.inputs=[]
 syms:n≤2→l.symbols=[]
 ruls:n≤2→l.rules=[]
def preT (n:Nat) (l:La):List UInt8:=if n=0 then [] else if n=1 then nmT l.name++[10] else kw2 l
theorem k93 {n:Nat} {l l':La} {s:List UInt8} (hI:StInv n l) (h:kjv (n+1) l s = .inr l'):StInv (n+1) l'∧preT (n+1) l'=preT n l++(s++[10]):=by
 unfold kjv at h
 by_cases h1:n+1=1
 ·rw [if_pos h1] at h
  obtain rfl:n=0:=by omega
  split at h
  ·cases h
  ·rename_i k r hc
   split at h
   ·rename_i hk
    cases h
    obtain ⟨e1,_⟩:=cut1_some.1 hc
    refine ⟨⟨fun h=>by omega,fun _=>hI.ins (by omega),fun _=>hI.syms (by omega),fun _=>hI.ruls (by omega)⟩,?_⟩
    unfold preT
    rw [if_neg (by omega),if_pos rfl,if_pos rfl,List.nil_append,e1,hk.1]
    show nmT (mkB r)++[10]=_
    unfold nmT
    rw [show bsOf (mkB r)=r from kay r]
   ·cases h
 ·rw [if_neg h1] at h
  by_cases h2:n+1=2
  ·rw [if_pos h2] at h
   obtain rfl:n=1:=by omega
   split at h
   ·rename_i hk
    split at h
    ·cases h
    ·rename_i ts ht
     cases h
     refine ⟨⟨fun h=>by omega,fun h=>by omega,fun _=>hI.syms (by omega),fun _=>hI.ruls (by omega)⟩,?_⟩
     obtain ⟨e2,_⟩:=kt5 ht
     have e3:s=inT ts:=by
      have e4:=kuf (w:=[32]) (by simp) _ s (qw _)
      cases hs:kb7 [32] s with
      | nil=>rw [hs] at hk;cases hk
      | cons x t=>
       rw [hs] at hk e2 e4
       simp only [List.head?_cons,qj] at hk
       simp only [List.tail_cons] at e2
       rw [← e4,k36,hk,e2]
       unfold inT
       rw [List.flatMap_map]
     unfold preT
     rw [if_neg (by omega),if_neg (by omega),if_neg (by omega),if_pos rfl]
     unfold kw2
     simp only
     rw [hI.syms (by omega),hI.ruls (by omega),e3]
     simp [sysT,rusT]
   ·cases h
  ·rw [if_neg h2] at h
   have hn:2≤n:=by omega
   have pre:∀ l,preT (n+1) l=kw2 l∧preT n l=kw2 l:=fun l=>by
    unfold preT
    exact ⟨by rw [if_neg (by omega),if_neg (by omega)],by rw [if_neg (by omega),if_neg (by omega)]⟩
   rw [(pre l).2,(pre l').1]
   split at h
   ·cases h
   ·rename_i k r hc
    obtain ⟨e1,_⟩:=cut1_some.1 hc
    split at h
    ·rename_i hk
     split at h
     ·cases h
     ·rename_i w t hc2
      obtain ⟨e2,_⟩:=cut1_some.1 hc2
      split at h
      ·split at h
       ·cases h
       ·rename_i ty hty
        cases h
        refine ⟨⟨fun h=>by omega,fun h=>by omega,fun h=>by omega,fun h=>by omega⟩,?_⟩
        obtain ⟨e3,_⟩:=k0p hty
        unfold kw2
        simp only
        rw [hk.2,e1,e2,hk.1,e3]
        simp [sysT,rusT,syT,show bsOf (mkB w)=w from kay w]
      ·cases h
    ·split at h
     ·rename_i hk
      split at h
      ·cases h
      ·rename_i ru hru
       cases h
       refine ⟨⟨fun h=>by omega,fun h=>by omega,fun h=>by omega,fun h=>by omega⟩,?_⟩
       have e3:=kag5 hru
       unfold kw2
       simp only
       rw [e1,hk,e3]
       simp [rusT]
     ·cases h
end Go.Proofs.YtaimpcnpifoidaaGreatDoor
set_option linter.unusedVariables false
set_option linter.unusedSimpArgs false
set_option maxRecDepth 100000
namespace Go.Proofs.YtaimpcnpifoidaaGreatDoor
open Go Go.RowKit
theorem kaam {t:Int} (h:kjw t):ki1 t=some (mkB (tyW t))∧kgb t=some (mkB (tyW t)):=by
 rcases k07 h with rfl | rfl | rfl | rfl | rfl | rfl | rfl | rfl <;> exact ⟨by kernel_rfl,by kernel_rfl⟩
end Go.Proofs.YtaimpcnpifoidaaGreatDoor
