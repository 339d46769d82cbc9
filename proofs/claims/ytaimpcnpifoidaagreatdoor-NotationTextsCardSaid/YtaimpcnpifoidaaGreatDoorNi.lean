import Derived.Test.YtaimpcnpifoidaaGreatDoorNg
set_option linter.unusedVariables false
set_option linter.unusedSimpArgs false
set_option maxRecDepth 100000
namespace Go.Proofs.YtaimpcnpifoidaaGreatDoor
open Go Go.RowKit
def vis (c:UInt8):Prop:=32≤c.toNat∧c.toNat≤126
def shOk (l:List UInt8):Prop:=(∀ c∈l,vis c)∧l.head?≠some 105∧l.getLast?≠some 41
theorem kw4 {c:UInt8} (h:dig c):vis c∧c≠105∧c≠41:=by
 unfold dig at h
 refine ⟨⟨by omega,by omega⟩,fun e=>?_,fun e=>?_⟩ <;> subst e <;> simp at h
theorem kx7 (n:Int):shOk (khg n):=by
 obtain ⟨d,ds,h1,h2,_⟩:=k0e n.natAbs
 have hl:(d::ds).getLast?≠some 41:=fun e=>by
  have:=List.mem_of_getLast? e
  exact (kw4 (h2 _ this)).2.2 rfl
 unfold khg
 rw [h1]
 split
 ·refine ⟨fun c hc=>?_,by simp,?_⟩
  ·rcases qz.1 hc with rfl | hc
   ·exact ⟨by decide,by decide⟩
   ·exact (kw4 (h2 c hc)).1
  ·rw [List.getLast?_cons_cons];exact hl
 ·refine ⟨fun c hc=>(kw4 (h2 c hc)).1,?_,hl⟩
  simp only [List.head?_cons]
  intro e
  exact (kw4 (h2 d (qr ..))).2.1 (qm e)
theorem k29 {n:Nat} (h:n<16):vis (hexD n)∧hexD n≠41:=by
 have:∀ k:Fin 16,vis (hexD k.val)∧hexD k.val≠41:=by unfold vis;decide
 exact this ⟨n,h⟩
theorem kxy {l:List UInt8} (h:∀ c∈l,kml c=true):∀ c∈kfy l,vis c:=fun c hc=>by
 unfold kfy at hc
 rcases qz.1 hc with rfl | hc
 ·exact ⟨by decide,by decide⟩
 rcases qab.1 hc with hc | hc
 ·obtain ⟨x,hx,hc⟩:=List.mem_flatMap.1 hc
  have hp:=h x hx
  unfold escB at hc
  split at hc
  ·rename_i hq
   rcases qz.1 hc with rfl | hc
   ·exact ⟨by decide,by decide⟩
   ·rw [qak.1 hc]
    rcases hq with rfl | rfl <;> exact ⟨by decide,by decide⟩
  ·try rw [if_pos hp] at hc
   rw [qak.1 hc]
   unfold kml at hp
   simp at hp
   exact hp
 ·rw [qak.1 hc];exact ⟨by decide,by decide⟩
theorem k3x {P:UInt8→Prop} (h1:P 44) (h2:P 32):∀ {ls:List (List UInt8)},(∀ x∈ls,∀ c∈x,P c)→∀ c∈kdi ls,P c
 | [],_,c,hc=>by cases hc
 | [x],h,c,hc=>h x (qr ..) c hc
 | x::y::l,h,c,hc=>by
  rw [kdi] at hc
  rcases qab.1 hc with hc | hc
  ·exact h x (qr ..) c hc
  rcases qz.1 hc with rfl | hc
  ·exact h1
  rcases qz.1 hc with rfl | hc
  ·exact h2
  ·exact k3x h1 h2 (fun z hz=>h z (ql _ hz)) c hc
theorem kty {a b:UInt8} {l:List UInt8} (ha:vis a) (hb:vis b) (h:∀ c∈l,vis c):∀ c∈a::(l++[b]),vis c:=fun c hc=>by
 rcases qz.1 hc with rfl | hc
 ·exact ha
 rcases qab.1 hc with hc | hc
 ·exact h c hc
 ·rw [qak.1 hc];exact hb
theorem kpg {a b:UInt8} {l:List UInt8} (hb:b≠41):(a::(l++[b])).getLast?≠some 41:=by
 rw [← List.cons_append,List.getLast?_append]
 simp [hb]
theorem kafl {x:Va} (h:kum x):∀ c∈kal x,vis c:=by
 obtain ⟨n,rfl,_⟩:=h
 simp only [kal]
 exact (kx7 n).1
theorem k5z {x:Va} (h:kr0 x):∀ c∈kal x,vis c:=by
 obtain ⟨s,rfl,hs⟩:=h
 simp only [kal]
 exact kxy hs.2.2
theorem v32 {c:UInt8} (h:32≤c.toNat) (h2:c.toNat≤126):vis c:=⟨h,h2⟩
theorem ksa {l:List Va} (h:∀ x∈l,∀ c∈kal x,vis c):∀ c∈kdi (kn1 l),vis c:=by
 rw [klw]
 refine k3x (v32 (by decide) (by decide)) (v32 (by decide) (by decide)) fun y hy=>?_
 obtain ⟨x,hx,rfl⟩:=qaq.1 hy
 exact h x hx
theorem kaf6 {lo hi:Nat} {x:Va} (h:kwy lo hi x):∀ c∈kal x,vis c:=by
 obtain ⟨l,rfl,_,_,hl⟩:=h
 simp only [kal]
 exact kty (v32 (by decide) (by decide)) (v32 (by decide) (by decide)) (ksa fun y hy=>k5z (hl y hy))
theorem kadh {x:Va} (h:kr3 x):shOk (kal x):=by
 rcases h with (rfl | rfl) | h | ⟨n,rfl,h0,h1⟩ | ⟨s,rfl,hs⟩ | ⟨s,rfl,hs⟩ | ⟨l,rfl,_,hl⟩ | ⟨l,rfl,_,_,hl⟩ | ⟨l,rfl,_,m,_,_,hl⟩
 ·simp only [kal];unfold shOk vis;decide
 ·simp only [kal];unfold shOk vis;decide
 ·obtain ⟨n,rfl,_⟩:=h
  simp only [kal]
  exact kx7 n
 ·simp only [kal]
  have a:=k29 (n:=n.toNat / 16) (by omega)
  have b:=k29 (n:=n.toNat % 16) (by omega)
  refine ⟨fun c hc=>?_,by simp,by simp [b.2]⟩
  simp at hc
  rcases hc with rfl | rfl | rfl | rfl
  ·exact ⟨by decide,by decide⟩
  ·exact ⟨by decide,by decide⟩
  ·exact a.1
  ·exact b.1
 ·simp only [kal]
  exact ⟨kxy hs.2.2,by simp [kfy],kpg (by decide)⟩
 ·simp only [kal]
  refine ⟨fun c hc=>?_,by simp,?_⟩
  ·rcases qz.1 hc with rfl | hc
   ·exact ⟨by decide,by decide⟩
   ·exact kxy hs.2.2 c hc
  ·show (114::kfy s.data.toList).getLast?≠some 41
   rw [show (114::kfy s.data.toList)=114::34::(s.data.toList.flatMap escB++[34]) from rfl,List.getLast?_cons_cons]
   exact kpg (by decide)
 ·simp only [kal]
  exact ⟨kty (v32 (by decide) (by decide)) (v32 (by decide) (by decide)) (ksa fun y hy=>kafl (hl y hy)),by simp,kpg (by decide)⟩
 ·simp only [kal]
  exact ⟨kty (v32 (by decide) (by decide)) (v32 (by decide) (by decide)) (ksa fun y hy=>k5z (hl y hy)),by simp,kpg (by decide)⟩
 ·simp only [kal]
  exact ⟨kty (v32 (by decide) (by decide)) (v32 (by decide) (by decide)) (ksa fun y hy=>kaf6 (hl y hy)),by simp,kpg (by decide)⟩
theorem kxs {b:List UInt8} (h:(prV (mkB b)).2.2=0):b=kal (prV (mkB b)).1∧kr3 (prV (mkB b)).1:=by
 rcases kaid (mkB b) with ⟨v,h1,h2⟩ | ⟨h1,h2⟩
 ·rw [h2]
  have e:=k4n (mkB b) oneP 0
  rw [h1,qav,kaz] at e
  simp only [kaj,List.drop_length] at e
  obtain ⟨e1,e2⟩:=kahv e
  exact ⟨by rw [List.append_nil] at e1;exact e1,e2⟩
 ·rw [h1] at h
  simp at h
theorem k4q {b:List UInt8} {k:Nat} (h:inpL b=some k):b=105::110::khg (k:Int)∧k<4:=by
 unfold inpL at h
 split at h
 ·rename_i d
  split at h
  ·rename_i hd
   cases h
   refine ⟨?_,by omega⟩
   unfold khg
   rw [if_neg (by omega),decN,dif_pos (by simp;omega)]
   congr 3
   apply qay.1
   rw [ofNat_toNat (by simp;omega)]
   simp
   omega
  ·cases h
 ·cases h
theorem kaet {b:List UInt8} {k:Nat} (h:inpL b=some k):b.head?=some 105∧b.getLast?≠some 41:=by
 obtain ⟨e,_⟩:=k4q h
 have h2:=(kx7 (k:Int)).2.2
 refine ⟨by rw [e];rfl,?_⟩
 rw [e,List.getLast?_cons_cons]
 obtain ⟨d,ds,h1,_⟩:=k0e ((k:Int)).natAbs
 unfold khg at h2 ⊢
 rw [if_neg (by omega),h1] at h2 ⊢
 rw [List.getLast?_cons_cons]
 exact h2
theorem kagr {b:List UInt8} {k:Nat} (h:inpL b=some k):(prV (mkB b)).2.2≠0:=fun h2=>by
 obtain ⟨e1,e2⟩:=kxs h2
 have h3:=(kadh e2).2.1
 rw [← e1] at h3
 exact h3 (kaet h).1
theorem kvt {l:List UInt8} {c:UInt8} (h:l.getLast?=some c):l=l.dropLast++[c]:=by
 have hne:l≠[]:=fun e=>by rw [e] at h;cases h
 have h1:=List.dropLast_concat_getLast hne
 rw [List.getLast?_eq_some_getLast hne] at h
 cases h
 exact h1.symm
theorem kadj {b op:List UInt8} {aw:List (List UInt8)} (h:appL b=some (op,aw)):kb3 (mkB op)∧b=op++(40::(kdi aw++[41]))∧∀ a∈aw,kb3 (mkB a):=by
 unfold appL at h
 split at h
 ·cases h
 ·rename_i o rest hc
  obtain ⟨e1,_⟩:=cut1_some.1 hc
  split at h
  ·rename_i hn
   have e2:=kvt hn.2
   split at h
   ·rename_i hd
    cases h
    refine ⟨hn.1,?_,by simp⟩
    rw [e1,e2,hd];rfl
   ·split at h
    ·rename_i hall
     cases h
     refine ⟨hn.1,?_,hall⟩
     rw [k3f,kt8 (by simp) _ _ (qw _),← e2]
     exact e1
    ·cases h
  ·cases h
theorem kadl {sy:List Sy} {b op:List UInt8} {k i:Int} {v:Va} {aw:List (List UInt8)} {is:List Int} {y:Int} (h:rhsL b=some (k,i,v,op,aw)) (h2:kc5 sy aw=some is):b=rhsT sy (Ru.mk y k i v (mkB op) is):=by
 unfold rhsL at h
 unfold rhsT
 split at h
 ·rename_i j hj
  cases h
  obtain ⟨e,_⟩:=k4q hj
  rw [if_neg (by simp)]
  unfold k7c
  rw [if_pos rfl]
  exact e
 ·split at h
  ·rename_i hp
   cases h
   obtain ⟨e,_⟩:=kxs hp
   rw [if_neg (by simp)]
   unfold k7c
   rw [if_neg (by simp)]
   exact e
  ·obtain ⟨⟨o,a2⟩,h3,h4⟩:=qi.1 h
   cases h4
   obtain ⟨_,e,_⟩:=kadj h3
   rw [if_pos rfl]
   obtain ⟨e3,_⟩:=kmi h2
   have e4:a2=is.map (kqp sy):=e3
   rw [e,← e4]
   show _=bsOf (mkB o)++_
   rw [show bsOf (mkB o)=o from kaz o]
theorem kahg {sy:List Sy} {s:List UInt8} {r:Ru} (h:ruL sy s = .inr r):krt++(32::s)=ruT sy r:=by
 unfold ruL at h
 split at h
 ·cases h
 ·rename_i w b hc
  split at h
  ·split at h
   ·cases h
   ·rename_i k i v op aw hr
    split at h
    ·rename_i y ys hy hys
     cases h
     obtain ⟨e1,_⟩:=kqc (by simp) hc
     obtain ⟨h2,h3⟩:=kt2 hy
     unfold ruT
     rw [← kadl hr hys,e1]
     rw [show kqp sy (y:Int)=w by rw [kzf h2,h3]]
    ·cases h
  ·cases h
structure StInv (n:Nat) (l:La):Prop where
 none:n=0→l.name=⟨#[]⟩
 ins:n≤1→l.inputs=[]
 syms:n≤2→l.symbols=[]
 ruls:n≤2→l.rules=[]
def preT (n:Nat) (l:La):List UInt8:=if n=0 then [] else if n=1 then nmT l.name++[10] else kwg l
theorem kaa7 {n:Nat} {l l':La} {s:List UInt8} (hI:StInv n l) (h:kju (n+1) l s = .inr l'):StInv (n+1) l'∧preT (n+1) l'=preT n l++(s++[10]):=by
 unfold kju at h
 by_cases h1:n+1=1
 ·rw [if_pos h1] at h
  obtain rfl:n=0:=by omega
  split at h
  ·cases h
  ·rename_i k r hc
   split at h
   ·rename_i hk
    cases h
    obtain ⟨e1,_⟩:=cut1_some.1 hc
    refine ⟨⟨fun h=>by omega,fun _=>hI.ins (by omega),fun _=>hI.syms (by omega),fun _=>hI.ruls (by omega)⟩,?_⟩
    unfold preT
    rw [if_neg (by omega),if_pos rfl,if_pos rfl,List.nil_append,e1,hk.1]
    show nmT (mkB r)++[10]=_
    unfold nmT
    rw [show bsOf (mkB r)=r from kaz r]
   ·cases h
 ·rw [if_neg h1] at h
  by_cases h2:n+1=2
  ·rw [if_pos h2] at h
   obtain rfl:n=1:=by omega
   split at h
   ·rename_i hk
    split at h
    ·cases h
    ·rename_i ts ht
     cases h
     refine ⟨⟨fun h=>by omega,fun h=>by omega,fun _=>hI.syms (by omega),fun _=>hI.ruls (by omega)⟩,?_⟩
     obtain ⟨e2,_⟩:=ktv ht
     have e3:s=inT ts:=by
      have e4:=kt8 (w:=[32]) (by simp) _ s (qw _)
      cases hs:kca [32] s with
      | nil=>rw [hs] at hk;cases hk
      | cons x t=>
       rw [hs] at hk e2 e4
       simp only [List.head?_cons,qj] at hk
       simp only [List.tail_cons] at e2
       rw [← e4,k21,hk,e2]
       unfold inT
       rw [List.flatMap_map]
     unfold preT
     rw [if_neg (by omega),if_neg (by omega),if_neg (by omega),if_pos rfl]
     unfold kwg
     simp only
     rw [hI.syms (by omega),hI.ruls (by omega),e3]
     simp [sysT,rusT]
   ·cases h
  ·rw [if_neg h2] at h
   have hn:2≤n:=by omega
   have pre:∀ l,preT (n+1) l=kwg l∧preT n l=kwg l:=fun l=>by
    unfold preT
    exact ⟨by rw [if_neg (by omega),if_neg (by omega)],by rw [if_neg (by omega),if_neg (by omega)]⟩
   rw [(pre l).2,(pre l').1]
   split at h
   ·cases h
   ·rename_i k r hc
    obtain ⟨e1,_⟩:=cut1_some.1 hc
    split at h
    ·rename_i hk
     split at h
     ·cases h
     ·rename_i w t hc2
      obtain ⟨e2,_⟩:=cut1_some.1 hc2
      split at h
      ·split at h
       ·cases h
       ·rename_i ty hty
        cases h
        refine ⟨⟨fun h=>by omega,fun h=>by omega,fun h=>by omega,fun h=>by omega⟩,?_⟩
        obtain ⟨e3,_⟩:=k0u hty
        unfold kwg
        simp only
        rw [hk.2,e1,e2,hk.1,e3]
        simp [sysT,rusT,syT,show bsOf (mkB w)=w from kaz w]
      ·cases h
    ·split at h
     ·rename_i hk
      split at h
      ·cases h
      ·rename_i ru hru
       cases h
       refine ⟨⟨fun h=>by omega,fun h=>by omega,fun h=>by omega,fun h=>by omega⟩,?_⟩
       have e3:=kahg hru
       unfold kwg
       simp only
       rw [e1,hk,e3]
       simp [rusT]
     ·cases h
end Go.Proofs.YtaimpcnpifoidaaGreatDoor
set_option linter.unusedVariables false
set_option linter.unusedSimpArgs false
set_option maxRecDepth 100000
namespace Go.Proofs.YtaimpcnpifoidaaGreatDoor
open Go Go.RowKit
theorem k94 {t:Int} (h:kjv t):ki0 t=some (mkB (tyW t))∧kgb t=some (mkB (tyW t)):=by
 rcases k14 h with rfl | rfl | rfl | rfl | rfl | rfl | rfl | rfl <;> exact ⟨by kernel_rfl,by kernel_rfl⟩
end Go.Proofs.YtaimpcnpifoidaaGreatDoor
