import Derived.Test.YtaimpcnpifoidaaGreatDoorNg
set_option linter.unusedVariables false
set_option linter.unusedSimpArgs false
set_option maxRecDepth 100000
namespace Go.Proofs.YtaimpcnpifoidaaGreatDoor
open Go Go.RowKit
def vis (c:UInt8):Prop:=32≤c.toNat∧c.toNat≤126
theorem v32 {c:UInt8} (h:32≤c.toNat) (h2:c.toNat≤126):vis c:=⟨h,h2⟩
theorem k1n {b:List UInt8} (h:(prV (mkB b)).2.2=0):b=kaq (prV (mkB b)).1∧ki1 (prV (mkB b)).1:=by
 rcases kagu (mkB b) with ⟨v,h1,h2⟩ | ⟨h1,h2⟩
 ·rw [h2]
  have e:=k0r (mkB b) oneP 0
  rw [h1,List.drop_zero,kbl] at e
  simp only [kbu,List.drop_length] at e
  obtain ⟨e1,e2⟩:=kaef e
  exact ⟨by rw [List.append_nil] at e1;exact e1,e2⟩
 ·rw [h1] at h
  simp at h
theorem k9p {b:List UInt8} {k:Nat} (h:inpL b=some k):b=105::110::kg3 (k:Int)∧k<4:=by
 unfold inpL at h
 split at h
 ·rename_i d
  split at h
  ·rename_i hd
   cases h
   refine ⟨?_,by omega⟩
   unfold kg3
   rw [if_neg (by omega),decN,dif_pos (by simp;omega)]
   congr 3
   apply qaw.1
   rw [ofNat_toNat (by simp;omega)]
   simp
   omega
  ·cases h
 ·cases h
theorem kzh {l:List UInt8} {c:UInt8} (h:l.getLast?=some c):l=l.dropLast++[c]:=by
 have hne:l≠[]:=fun e=>by rw [e] at h;cases h
 have h1:=List.dropLast_concat_getLast hne
 rw [List.getLast?_eq_some_getLast hne] at h
 cases h
 exact h1.symm
theorem kaai {b op:List UInt8} {aw:List (List UInt8)} (h:appL b=some (op,aw)):kcw (mkB op)∧b=op++(40::(kc1 aw++[41]))∧∀ a∈aw,kcw (mkB a):=by
 unfold appL at h
 split at h
 ·cases h
 ·rename_i o rest hc
  obtain ⟨e1,_⟩:=cut1_some.1 hc
  split at h
  ·rename_i hn
   have e2:=kzh hn.2
   split at h
   ·rename_i hd
    cases h
    refine ⟨hn.1,?_,by simp⟩
    rw [e1,e2,hd];rfl
   ·split at h
    ·rename_i hall
     cases h
     refine ⟨hn.1,?_,hall⟩
     rw [ksx,kse (by simp) _ _ (qt _),← e2]
     exact e1
    ·cases h
  ·cases h
theorem kaav {sy:List Sy} {b op:List UInt8} {k i:Int} {v:Va} {aw:List (List UInt8)} {is:List Int} {y:Int} (h:rhsL b=some (k,i,v,op,aw)) (h2:kee sy aw=some is):b=rhsT sy (Ru.mk y k i v (mkB op) is):=by
 unfold rhsL at h
 unfold rhsT
 split at h
 ·rename_i j hj
  cases h
  obtain ⟨e,_⟩:=k9p hj
  rw [if_neg (by simp)]
  unfold ksc
  rw [if_pos rfl]
  exact e
 ·split at h
  ·rename_i hp
   cases h
   obtain ⟨e,_⟩:=k1n hp
   rw [if_neg (by simp)]
   unfold ksc
   rw [if_neg (by simp)]
   exact e
  ·obtain ⟨⟨o,a2⟩,h3,h4⟩:=qj.1 h
   cases h4
   obtain ⟨_,e,_⟩:=kaai h3
   rw [if_pos rfl]
   obtain ⟨e3,_⟩:=knl h2
   have e4:a2=is.map (kf0 sy):=e3
   rw [e,← e4]
   show _=bsOf (mkB o)++_
   rw [show bsOf (mkB o)=o from kbl o]
theorem kae3 {sy:List Sy} {s:List UInt8} {r:Ru} (h:ruL sy s = .inr r):kou++(32::s)=ruT sy r:=by
 unfold ruL at h
 split at h
 ·cases h
 ·rename_i w b hc
  split at h
  ·split at h
   ·cases h
   ·rename_i k i v op aw hr
    split at h
    ·rename_i y ys hy hys
     cases h
     obtain ⟨e1,_⟩:=kya (by simp) hc
     obtain ⟨h2,h3⟩:=kr6 hy
     unfold ruT
     rw [← kaav hr hys,e1]
     rw [show kf0 sy (y:Int)=w by rw [kow h2,h3]]
    ·cases h
  ·cases h
structure StInv (n:Nat) (l:La):Prop where
 none:n=0→l.name=⟨#[]⟩
 ins:n≤1→l.inputs=[]
 syms:n≤2→l.symbols=[]
 ruls:n≤2→l.rules=[]
def preT (n:Nat) (l:La):List UInt8:=if n=0 then [] else if n=1 then nmT l.name++[10] else kl6 l
theorem ky8 {n:Nat} {l l':La} {s:List UInt8} (hI:StInv n l) (h:kj3 (n+1) l s = .inr l'):StInv (n+1) l'∧preT (n+1) l'=preT n l++(s++[10]):=by
 unfold kj3 at h
 by_cases h1:n+1=1
 ·rw [if_pos h1] at h
  obtain rfl:n=0:=by omega
  split at h
  ·cases h
  ·rename_i k r hc
   split at h
   ·rename_i hk
    cases h
    obtain ⟨e1,_⟩:=cut1_some.1 hc
    refine ⟨⟨fun h=>by omega,fun _=>hI.ins (by omega),fun _=>hI.syms (by omega),fun _=>hI.ruls (by omega)⟩,?_⟩
    unfold preT
    rw [if_neg (by omega),if_pos rfl,if_pos rfl,List.nil_append,e1,hk.1]
    show nmT (mkB r)++[10]=_
    unfold nmT
    rw [show bsOf (mkB r)=r from kbl r]
   ·cases h
 ·rw [if_neg h1] at h
  by_cases h2:n+1=2
  ·rw [if_pos h2] at h
   obtain rfl:n=1:=by omega
   split at h
   ·rename_i hk
    split at h
    ·cases h
    ·rename_i ts ht
     cases h
     refine ⟨⟨fun h=>by omega,fun h=>by omega,fun _=>hI.syms (by omega),fun _=>hI.ruls (by omega)⟩,?_⟩
     obtain ⟨e2,_⟩:=ks1 ht
     have e3:s=inT ts:=by
      have e4:=kse (w:=[32]) (by simp) _ s (qt _)
      cases hs:kd0 [32] s with
      | nil=>rw [hs] at hk;cases hk
      | cons x t=>
       rw [hs] at hk e2 e4
       simp only [List.head?_cons,qh] at hk
       simp only [List.tail_cons] at e2
       rw [← e4,kvz,hk,e2]
       unfold inT
       rw [List.flatMap_map]
     unfold preT
     rw [if_neg (by omega),if_neg (by omega),if_neg (by omega),if_pos rfl]
     unfold kl6
     simp only
     rw [hI.syms (by omega),hI.ruls (by omega),e3]
     simp [sysT,rusT]
   ·cases h
  ·rw [if_neg h2] at h
   have hn:2≤n:=by omega
   have pre:∀ l,preT (n+1) l=kl6 l∧preT n l=kl6 l:=fun l=>by
    unfold preT
    exact ⟨by rw [if_neg (by omega),if_neg (by omega)],by rw [if_neg (by omega),if_neg (by omega)]⟩
   rw [(pre l).2,(pre l').1]
   split at h
   ·cases h
   ·rename_i k r hc
    obtain ⟨e1,_⟩:=cut1_some.1 hc
    split at h
    ·rename_i hk
     split at h
     ·cases h
     ·rename_i w t hc2
      obtain ⟨e2,_⟩:=cut1_some.1 hc2
      split at h
      ·split at h
       ·cases h
       ·rename_i ty hty
        cases h
        refine ⟨⟨fun h=>by omega,fun h=>by omega,fun h=>by omega,fun h=>by omega⟩,?_⟩
        obtain ⟨e3,_⟩:=kxz hty
        unfold kl6
        simp only
        rw [hk.2,e1,e2,hk.1,e3]
        simp [sysT,rusT,syT,show bsOf (mkB w)=w from kbl w]
      ·cases h
    ·split at h
     ·rename_i hk
      split at h
      ·cases h
      ·rename_i ru hru
       cases h
       refine ⟨⟨fun h=>by omega,fun h=>by omega,fun h=>by omega,fun h=>by omega⟩,?_⟩
       have e3:=kae3 hru
       unfold kl6
       simp only
       rw [e1,hk,e3]
       simp [rusT]
     ·cases h
theorem kyw:∀ (k n m:Nat) (l l':La) (s:List UInt8),s.length≤k→StInv n l→kid k n l s = .inr (m,l')→StInv m l'∧n≤m∧preT m l'=preT n l++s
 | 0,n,m,l,l',s,hk,hI,h=>by
  have hs:s=[]:=qx (by omega)
  rw [kid] at h
  cases h
  exact ⟨hI,qt _,by rw [hs,List.append_nil]⟩
 | k+1,n,m,l,l',s,hk,hI,h=>by
  rw [kid] at h
  split at h
  ·rename_i hs
   cases h
   exact ⟨hI,qt _,by rw [hs,List.append_nil]⟩
  ·split at h
   ·cases h
   ·rename_i a b hc
    have h1:=kej (by simp) hc
    obtain ⟨e1,_⟩:=cut1_some.1 hc
    split at h
    ·cases h
    ·rename_i l1 hl
     obtain ⟨i1,i2⟩:=ky8 hI hl
     obtain ⟨j1,j2,j3⟩:=kyw k (n+1) m l1 l' b (by omega) i1 h
     exact ⟨j1,by omega,by rw [j3,i2,e1];simp⟩
theorem k75 {s:List UInt8} {m:Nat} {l:La} (h:kio 0 laD s = .inr (m,l)) (hm:2≤m):kl6 l=s:=by
 have:=(kyw _ 0 m laD l s (qt _) ⟨fun _=>rfl,fun _=>rfl,fun _=>rfl,fun _=>rfl⟩ h).2.2
 unfold preT at this
 rw [if_neg (by omega),if_neg (by omega),if_pos rfl] at this
 exact this
theorem k66 {l:La} (hv:ValidL l) {i:Int} (h:0≤i∧i<(l.symbols.length:Int)):kcw (mkB (kf0 l.symbols i)):=by
 obtain ⟨k,rfl⟩:∃ k:Nat,i=(k:Int):=⟨i.toNat,by omega⟩
 have hk:k<l.symbols.length:=by omega
 rw [kow hk,kkf]
 exact hv.names k hk
end Go.Proofs.YtaimpcnpifoidaaGreatDoor
