import Derived.Test.YtaimpcnpifoidaaGreatDoorNl
set_option linter.unusedVariables false
set_option linter.unusedSimpArgs false
set_option maxRecDepth 100000
namespace Go.Proofs.YtaimpcnpifoidaaGreatDoor
open Go Go.RowKit
theorem kol:∀ {l:List Va},(∀ x∈l,kkc x)→kun l
 | [],_=>trivial
 | x::l,h=>⟨h x (qu ..),kol fun y hy=>h y (ql _ hy)⟩
theorem kyq {x:Va} (h:kr8 x):kkc x:=by
 obtain ⟨n,rfl,_⟩:=h
 exact ⟨by show (0:Nat)≤_;omega,trivial⟩
theorem kzu {x:Va} (h:kql x):kkc x:=by
 obtain ⟨s,rfl,h⟩:=h
 exact ⟨by have:=h.2.1;omega,trivial⟩
theorem kyp {x:Va} {lo hi:Nat} (h:ku5 lo hi x):kkc x:=by
 obtain ⟨l,rfl,_,_,h⟩:=h
 exact ⟨by show (0:Nat)≤_;omega,kol fun y hy=>kzu (h y hy)⟩
theorem k79 {x:Va} (h:ki1 x):kkc x:=by
 rcases h with (rfl | rfl) | h | ⟨n,rfl,_⟩ | h | ⟨s,rfl,h⟩ | ⟨l,rfl,_,h⟩ | h | ⟨l,rfl,_,m,_,_,h⟩
 ·exact ⟨by show (0:Nat)≤_;omega,trivial⟩
 ·exact ⟨by show (0:Nat)≤_;omega,trivial⟩
 ·exact kyq h
 ·exact ⟨by show (0:Nat)≤_;omega,trivial⟩
 ·exact kzu h
 ·exact ⟨by have:=h.2.1;omega,trivial⟩
 ·exact ⟨by show (0:Nat)≤_;omega,kol fun y hy=>kyq (h y hy)⟩
 ·exact kyp h
 ·exact ⟨by show (0:Nat)≤_;omega,kol fun y hy=>kyp (h y hy)⟩
theorem k2k:okV kc7∧inV kc7:=⟨⟨by have:=klp (x:=kc7) (k:=0) fun y hy=>(by cases hy);omega,⟨by simp,trivial⟩⟩,⟨by simp,trivial⟩,⟨by show (0:Nat)≤_;omega,trivial⟩⟩
def RuB (r:Ru):Prop:=r.args.length≤70001∧okV r.const∧inV r.const
structure BdL (n:Nat) (l:La):Prop where
 name:l.name.size≤70000
 ins:l.inputs.length≤70001
 syms:l.symbols.length≤n
 names:∀ x∈l.symbols,x.name.size≤70000
 ruls:l.rules.length≤n
 wr:∀ r∈l.rules,RuB r
theorem kagj {sy:List Sy} {s:List UInt8} {r:Ru} (hs:s.length≤70000) (h:ruL sy s = .inr r):RuB r:=by
 unfold ruL at h
 split at h
 ·cases h
 ·rename_i w b hc
  have h1:=kej (by simp) hc
  split at h
  ·split at h
   ·cases h
   ·rename_i k i v op aw hr
    split at h
    ·rename_i y ys hy hys
     cases h
     have hl:ys.length=aw.length:=by
      have:=congrArg List.length (knl hys).1
      rw [q8] at this
      exact this.symm
     unfold rhsL at hr
     split at hr
     ·cases hr
      exact ⟨by rw [hl];simp,k2k⟩
     ·split at hr
      ·rename_i hp
       cases hr
       have q:=k1n hp
       have ok:=kagt (mkB b)
       exact ⟨by rw [hl];simp,ok,ok.2,k79 q.2⟩
      ·obtain ⟨⟨o,a2⟩,h3,h4⟩:=qj.1 hr
       cases h4
       have:=(k07 h3 (by omega)).1
       exact ⟨by rw [hl];exact this,k2k⟩
    ·cases h
  ·cases h
theorem kads {n:Nat} {l l':La} {s:List UInt8} (hs:s.length≤70000) (hB:BdL n l) (h:kj3 (n+1) l s = .inr l'):BdL (n+1) l':=by
 have hsy:=hB.syms
 have hru:=hB.ruls
 unfold kj3 at h
 split at h
 ·split at h
  ·cases h
  ·rename_i k r hc
   have h1:=kej (by simp) hc
   split at h
   ·cases h
    exact ⟨by rw [kbu];omega,hB.ins,by simp only;omega,hB.names,by simp only;omega,hB.wr⟩
   ·cases h
 ·split at h
  ·split at h
   ·split at h
    ·cases h
    ·rename_i ts ht
     cases h
     have hl:ts.length≤70001:=by
      have h2:=congrArg List.length (ks1 ht).1
      have h3:=(kni (w:=[32]) (by simp) hs).1
      rw [q8,List.length_tail] at h2
      omega
     exact ⟨hB.name,hl,by simp only;omega,hB.names,by simp only;omega,hB.wr⟩
   ·cases h
  ·split at h
   ·cases h
   ·rename_i k r hc
    have h1:=kej (by simp) hc
    split at h
    ·split at h
     ·cases h
     ·rename_i w t hc2
      have h2:=kej (by simp) hc2
      split at h
      ·split at h
       ·cases h
       ·cases h
        refine ⟨hB.name,hB.ins,by simp only [qm,qk,qq];omega,fun x hx=>?_,by simp only;omega,hB.wr⟩
        rcases qah.1 hx with hx | hx
        ·exact hB.names x hx
        ·rw [qaq.1 hx,kbu];omega
      ·cases h
    ·split at h
     ·split at h
      ·cases h
      ·rename_i ru hru'
       cases h
       refine ⟨hB.name,hB.ins,by simp only;omega,hB.names,by simp only [qm,qk,qq];omega,fun x hx=>?_⟩
       rcases qah.1 hx with hx | hx
       ·exact hB.wr x hx
       ·rw [qaq.1 hx];exact kagj (by omega) hru'
     ·cases h
theorem BdL.wide {n:Nat} (hn:n≤70000) {l:La} (h:BdL n l):kiq l:=
 ⟨by have:=h.name;omega,by have:=h.ins;omega,by have:=h.syms;omega,by have:=h.ruls;omega,fun x hx=>by have:=h.names x hx;omega,fun r hr=>⟨by have:=(h.wr r hr).1;omega,(h.wr r hr).2.2⟩⟩
theorem BdL.zero:BdL 0 laD:=⟨by show (0:Nat)≤_;omega,by simp [laD],by simp [laD],by simp [laD],by simp [laD],by simp [laD]⟩
theorem StInv.zero:StInv 0 laD:=⟨fun _=>rfl,fun _=>rfl,fun _=>rfl,fun _=>rfl⟩
def chk (l:La):Int:=(kdd l).getD 0
theorem k1c {l:La} (h:kiq l):kdd l=some (chk l)∧kb4 l=some (chk l)∧(chk l=0↔ValidL l):=by
 obtain ⟨c,c1,c2,c3,_⟩:=kyz h
 have e:chk l=c:=by unfold chk;rw [c1];rfl
 rw [e]
 exact ⟨c1,c2,c3⟩
def finL:(Int×Int) ⊕ (Nat×La)→La×Int×Int
 | .inl (k,e)=>(laD,k,e)
 | .inr (n,l)=>if n<2 then (laD,((n+1:Nat):Int),8) else if chk l≠0 then (laD,0,chk l) else (l,0,0)
def outL (s:List UInt8):La×Int×Int:=if 65536<s.length then (laD,0,2) else finL (kio 0 laD s)
structure Mid (s0:List UInt8) (n:Nat) (l:La) (s:List UInt8):Prop where
 same:kio n l s=kio 0 laD s0
 bd:BdL n l
 st:StInv n l
 len:s.length+n≤65536
theorem Mid.zero {s:List UInt8} (h:s.length≤65536):Mid s 0 laD s:=⟨rfl,BdL.zero,StInv.zero,by omega⟩
theorem Mid.next {s0:List UInt8} {n:Nat} {l l':La} {s a b:List UInt8} (h:Mid s0 n l s) (hc:cutW [10] s=some (a,b)) (hl:kj3 (n+1) l a = .inr l'):Mid s0 (n+1) l' b:=by
 have h1:=kej (by simp) hc
 have h2:=h.len
 refine ⟨?_,kads (by omega) h.bd hl,(ky8 h.st hl).1,by omega⟩
 rw [← h.same,ksl n l hc,hl]
theorem k1a {s0:List UInt8} (h0:s0.length≤65536) {n:Nat} {l:La} (h:kio 0 laD s0 = .inr (n,l)):BdL n l∧n≤65536:=by
 have key:∀ (k n:Nat) (l:La) (s:List UInt8),s.length≤k→Mid s0 n l s→∃ m l',kio 0 laD s0 = .inl (m,l')∨∃ n' l'',kio 0 laD s0 = .inr (n',l'')∧BdL n' l''∧n'≤65536:=by
  intro k
  induction k with
  | zero=>
   intro n l s hk hM
   have:s=[]:=qx (by omega)
   subst this
   exact ⟨0,0, .inr ⟨n,l,by rw [← hM.same];rfl,hM.bd,by have:=hM.len;omega⟩⟩
  | succ k ih=>
   intro n l s hk hM
   by_cases hs:s=[]
   ·subst hs
    exact ⟨0,0, .inr ⟨n,l,by rw [← hM.same];rfl,hM.bd,by have:=hM.len;omega⟩⟩
   ·cases hc:cutW [10] s with
    | none=>exact ⟨_,_, .inl (by rw [← hM.same,kwp n l hs hc])⟩
    | some p=>
     obtain ⟨a,b⟩:=p
     have h1:=kej (by simp) hc
     cases hl:kj3 (n+1) l a with
     | inl e=>exact ⟨_,_, .inl (by rw [← hM.same,ksl n l hc,hl])⟩
     | inr l'=>exact ih (n+1) l' b (by omega) (hM.next hc hl)
 obtain ⟨m,l',h1 | ⟨n',l'',h1,h2,h3⟩⟩:=key _ 0 laD s0 (qt _) (Mid.zero h0)
 ·rw [h] at h1;cases h1
 ·rw [h] at h1;cases h1;exact ⟨h2,h3⟩
theorem nil_b (s:List UInt8):((mkB s).toList == (⟨#[]⟩:BA).toList)=decide (s=[]):=krc s []
theorem kae7 (s:List UInt8):kdh (mkB s)=some ((outL s).2.1,(outL s).2.2,(outL s).1.name,(outL s).1.inputs,(outL s).1.symbols,(outL s).1.rules):=by
 unfold kdh outL
 rw [kbu]
 by_cases h0:65536<s.length
 ·rw [if_pos h0,qe (show 65536<(s.length:Int) by omega)];rfl
 rw [if_neg h0,qc (show ¬ 65536<(s.length:Int) by omega),qb]
 have main:Ev (kaa kfj fuel (mkB s,0,⟨#[]⟩,[],[],[],[])) fun r=>match kio 0 laD s with
   | .inl (k,e)=>r = .inr (k,e)
   | .inr (n,l)=>∃ m,r = .inl ((n:Int),l.name,l.inputs,l.symbols,l.rules,m):=by
  refine kabn (fun st=>∃ n l m t,st=(mkB t,((n:Nat):Int),l.name,l.inputs,l.symbols,l.rules,m)∧Mid s n l t∧MapOk m l.symbols) (fun st=>st.1.size) (by rw [kbu];omega) ⟨0,laD,[],s,rfl,Mid.zero (by omega),MapOk.nil⟩ ?_
  rintro st ⟨n,l,m,t,rfl,hM,hm⟩
  have hl:=hM.len
  have hb:=hM.bd
  unfold kfj
  simp only [nil_b]
  by_cases ht:t=[]
  ·subst ht
   refine km9 (b := .inl ((n:Int),l.name,l.inputs,l.symbols,l.rules,m)) rfl ?_
   rw [← hM.same,k8h]
   exact ⟨m,rfl⟩
  ·rw [qc ht,qap,qd,k1q (by rw [kbu];omega),kbl,qa,w64s n (by omega)]
   cases hc:cutW [10] t with
   | none=>
    refine km9 (b := .inr (((n+1:Nat):Int),8)) rfl ?_
    rw [← hM.same,kwp n l ht hc]
   | some p=>
    obtain ⟨a,b⟩:=p
    have h1:=kej (by simp) hc
    simp only [cutR,q9,qb]
    obtain ⟨r,e,hr⟩:=kagx (n:=n+1) (l:=l) (s:=a) hm (fun h=>hM.st.ins (by omega)) (by have:=hb.syms;omega) (by have:=hb.ruls;omega) (by omega)
    rw [e,qa]
    cases hl:kj3 (n+1) l a with
    | inl e=>
     rw [hl] at hr
     obtain ⟨rfl,hne⟩:=hr
     rw [show (r.1 != 0)=true by rw [bne_iff_ne];exact hne]
     refine km9 (b := .inr (((n+1:Nat):Int),r.1)) rfl ?_
     rw [← hM.same,ksl n l hc,hl]
    | inr l'=>
     rw [hl] at hr
     obtain ⟨m',rfl,hm'⟩:=hr
     refine kok (s:=(mkB b,((n+1:Nat):Int),l'.name,l'.inputs,l'.symbols,l'.rules,m')) rfl ⟨⟨n+1,l',m',b,rfl,hM.next hc hl,hm'⟩,?_⟩
     show (mkB b).size<(mkB t).size
     rw [kbu,kbu]
     omega
 obtain ⟨r,e,hr⟩:=main
 rw [e,qa]
 cases hR:kio 0 laD s with
 | inl p=>
  obtain ⟨k,c⟩:=p
  rw [hR] at hr
  simp only at hr
  subst hr
  rfl
 | inr p=>
  obtain ⟨n,l⟩:=p
  rw [hR] at hr
  obtain ⟨m,rfl⟩:=hr
  obtain ⟨hB,hn⟩:=k1a (by omega) hR
  simp only [qf,finL]
  by_cases h2:n<2
  ·rw [if_pos h2,qe (show (n:Int)<2 by omega),qd,w64s n (by omega)];rfl
  ·rw [if_neg h2,qc (show ¬ (n:Int)<2 by omega),qb]
   have hc:=(k1c (hB.wide (by omega))).1
   rw [show La.mk l.name l.inputs l.symbols l.rules=l from rfl,hc,qa]
   by_cases hz:chk l=0
   ·rw [if_neg fun h=>h hz,hz];rfl
   ·rw [if_pos hz,show (chk l != 0)=true by rw [bne_iff_ne];exact hz];rfl
end Go.Proofs.YtaimpcnpifoidaaGreatDoor
