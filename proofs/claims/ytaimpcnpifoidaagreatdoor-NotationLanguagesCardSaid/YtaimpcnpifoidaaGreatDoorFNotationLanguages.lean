/- NotationLanguages: the law returns true for every input where the listed tables hold what the program lays into them. -/
import Derived.Test.YtaimpcnpifoidaaGreatDoorNl
import Derived.ChangeMaps5
import Derived.JoinedOf
import Derived.Test.YtaimpcnpifoidaaGreatDoorRows
import Derived.Test.YtaimpcnpifoidaaGreatDoorLang
import Derived.Test.YtaimpcnpifoidaaGreatDoorGv
import Derived.Test.YtaimpcnpifoidaaGreatDoorCards
import Derived.Test.YtaimpcnpifoidaaGreatDoorTie
import Derived.Test.YtaimpcnpifoidaaGreatDoorGl
import Derived.SevenTiedAt
set_option linter.unusedVariables false
set_option linter.unusedSimpArgs false
set_option maxRecDepth 100000
namespace Go.Proofs.YtaimpcnpifoidaaGreatDoor
open Go Go.RowKit
theorem kpv:∀ {l:List Va},(∀ x∈l,klm x)→ksl l
 | [],_=>trivial
 | x::l,h=>⟨h x (qo ..),kpv fun y hy=>h y (qm _ hy)⟩
theorem k1a {x:Va} (h:kna x):klm x:=by
 obtain ⟨n,rfl,_⟩:=h
 exact ⟨by show (0:Nat)≤_;omega,trivial⟩
theorem k2d {x:Va} (h:kmm x):klm x:=by
 obtain ⟨s,rfl,h⟩:=h
 exact ⟨by have:=h.2.1;omega,trivial⟩
theorem k1j {x:Va} {lo hi:Nat} (h:kpt lo hi x):klm x:=by
 obtain ⟨l,rfl,_,_,h⟩:=h
 exact ⟨by show (0:Nat)≤_;omega,kpv fun y hy=>k2d (h y hy)⟩
theorem kabb {x:Va} (h:kg5 x):klm x:=by
 rcases h with (rfl | rfl) | h | ⟨n,rfl,_⟩ | h | ⟨s,rfl,h⟩ | ⟨l,rfl,_,h⟩ | h | ⟨l,rfl,_,m,_,_,h⟩
 ·exact ⟨by show (0:Nat)≤_;omega,trivial⟩
 ·exact ⟨by show (0:Nat)≤_;omega,trivial⟩
 ·exact k1a h
 ·exact ⟨by show (0:Nat)≤_;omega,trivial⟩
 ·exact k2d h
 ·exact ⟨by have:=h.2.1;omega,trivial⟩
 ·exact ⟨by show (0:Nat)≤_;omega,kpv fun y hy=>k1a (h y hy)⟩
 ·exact k1j h
 ·exact ⟨by show (0:Nat)≤_;omega,kpv fun y hy=>k1j (h y hy)⟩
theorem k37:okV kc8∧inV kc8:=⟨⟨by have:=kmw (x:=kc8) (k:=0) fun y hy=>(by cases hy);omega,⟨by simp,trivial⟩⟩,⟨by simp,trivial⟩,⟨by show (0:Nat)≤_;omega,trivial⟩⟩
def RuB (r:Ru):Prop:=r.args.length≤70001∧okV r.const∧inV r.const
structure BdL (n:Nat) (l:La):Prop where
 name:l.name.size≤70000
 ins:l.inputs.length≤70001
 syms:l.symbols.length≤n
 names:∀ x∈l.symbols,x.name.size≤70000
 ruls:l.rules.length≤n
 wr:∀ r∈l.rules,RuB r
theorem kakc {sy:List Sy} {s:List UInt8} {r:Ru} (hs:s.length≤70000) (h:ruL sy s = .inr r):RuB r:=by
 unfold ruL at h
 split at h
 ·cases h
 ·rename_i w b hc
  have h1:=kfh (by simp) hc
  split at h
  ·split at h
   ·cases h
   ·rename_i k i v op aw hr
    split at h
    ·rename_i y ys hy hys
     cases h
     have hl:ys.length=aw.length:=by
      have:=congrArg List.length (kok hys).1
      rw [qaa] at this
      exact this.symm
     unfold rhsL at hr
     split at hr
     ·cases hr
      exact ⟨by rw [hl];simp,k37⟩
     ·split at hr
      ·rename_i hp
       cases hr
       have q:=kxy hp
       have ok:=kab1 (mkB b)
       exact ⟨by rw [hl];simp,ok,ok.2,kabb q.2⟩
      ·obtain ⟨⟨o,a2⟩,h3,h4⟩:=qk.1 hr
       cases h4
       have:=(k36 h3 (by omega)).1
       exact ⟨by rw [hl];exact this,k37⟩
    ·cases h
  ·cases h
theorem kaip {n:Nat} {l l':La} {s:List UInt8} (hs:s.length≤70000) (hB:BdL n l) (h:kjc (n+1) l s = .inr l'):BdL (n+1) l':=by
 have hsy:=hB.syms
 have hru:=hB.ruls
 unfold kjc at h
 split at h
 ·split at h
  ·cases h
  ·rename_i k r hc
   have h1:=kfh (by simp) hc
   split at h
   ·cases h
    exact ⟨by rw [kbm];omega,hB.ins,by simp only;omega,hB.names,by simp only;omega,hB.wr⟩
   ·cases h
 ·split at h
  ·split at h
   ·split at h
    ·cases h
    ·rename_i ts ht
     cases h
     have hl:ts.length≤70001:=by
      have h2:=congrArg List.length (kuq ht).1
      have h3:=(kos (w:=[32]) (by simp) hs).1
      rw [qaa,List.length_tail] at h2
      omega
     exact ⟨hB.name,hl,by simp only;omega,hB.names,by simp only;omega,hB.wr⟩
   ·cases h
  ·split at h
   ·cases h
   ·rename_i k r hc
    have h1:=kfh (by simp) hc
    split at h
    ·split at h
     ·cases h
     ·rename_i w t hc2
      have h2:=kfh (by simp) hc2
      split at h
      ·split at h
       ·cases h
       ·cases h
        refine ⟨hB.name,hB.ins,by simp only [ql,qi,qn];omega,fun x hx=>?_,by simp only;omega,hB.wr⟩
        rcases q8.1 hx with hx | hx
        ·exact hB.names x hx
        ·rw [qan.1 hx,kbm];omega
      ·cases h
    ·split at h
     ·split at h
      ·cases h
      ·rename_i ru hru'
       cases h
       refine ⟨hB.name,hB.ins,by simp only;omega,hB.names,by simp only [ql,qi,qn];omega,fun x hx=>?_⟩
       rcases q8.1 hx with hx | hx
       ·exact hB.wr x hx
       ·rw [qan.1 hx];exact kakc (by omega) hru'
     ·cases h
theorem BdL.wide {n:Nat} (hn:n≤70000) {l:La} (h:BdL n l):kga l:=
 ⟨by have:=h.name;omega,by have:=h.ins;omega,by have:=h.syms;omega,by have:=h.ruls;omega,fun x hx=>by have:=h.names x hx;omega,fun r hr=>⟨by have:=(h.wr r hr).1;omega,(h.wr r hr).2.2⟩⟩
theorem BdL.zero:BdL 0 laD:=⟨by show (0:Nat)≤_;omega,by simp [laD],by simp [laD],by simp [laD],by simp [laD],by simp [laD]⟩
theorem StInv.zero:StInv 0 laD:=⟨fun _=>rfl,fun _=>rfl,fun _=>rfl,fun _=>rfl⟩
def chk (l:La):Int:=(kdu l).getD 0
theorem k24 {l:La} (h:kga l):kdu l=some (chk l)∧kcc l=some (chk l)∧(chk l=0↔ValidL l):=by
 obtain ⟨c,c1,c2,c3,_⟩:=kvs h
 have e:chk l=c:=by unfold chk;rw [c1];rfl
 rw [e]
 exact ⟨c1,c2,c3⟩
def finL:(Int×Int) ⊕ (Nat×La)→La×Int×Int
 | .inl (k,e)=>(laD,k,e)
 | .inr (n,l)=>if n<2 then (laD,((n+1:Nat):Int),8) else if chk l≠0 then (laD,0,chk l) else (l,0,0)
def outL (s:List UInt8):La×Int×Int:=if 65536<s.length then (laD,0,2) else finL (kh7 0 laD s)
structure Mid (s0:List UInt8) (n:Nat) (l:La) (s:List UInt8):Prop where
 same:kh7 n l s=kh7 0 laD s0
 bd:BdL n l
 st:StInv n l
 len:s.length+n≤65536
theorem Mid.zero {s:List UInt8} (h:s.length≤65536):Mid s 0 laD s:=⟨rfl,BdL.zero,StInv.zero,by omega⟩
theorem Mid.next {s0:List UInt8} {n:Nat} {l l':La} {s a b:List UInt8} (h:Mid s0 n l s) (hc:cutW [10] s=some (a,b)) (hl:kjc (n+1) l a = .inr l'):Mid s0 (n+1) l' b:=by
 have h1:=kfh (by simp) hc
 have h2:=h.len
 refine ⟨?_,kaip (by omega) h.bd hl,(kaax h.st hl).1,by omega⟩
 rw [← h.same,kp4 n l hc,hl]
theorem kaei {s0:List UInt8} (h0:s0.length≤65536) {n:Nat} {l:La} (h:kh7 0 laD s0 = .inr (n,l)):BdL n l∧n≤65536:=by
 have key:∀ (k n:Nat) (l:La) (s:List UInt8),s.length≤k→Mid s0 n l s→∃ m l',kh7 0 laD s0 = .inl (m,l')∨∃ n' l'',kh7 0 laD s0 = .inr (n',l'')∧BdL n' l''∧n'≤65536:=by
  intro k
  induction k with
  | zero=>
   intro n l s hk hM
   have:s=[]:=qy (by omega)
   subst this
   exact ⟨0,0, .inr ⟨n,l,by rw [← hM.same];rfl,hM.bd,by have:=hM.len;omega⟩⟩
  | succ k ih=>
   intro n l s hk hM
   by_cases hs:s=[]
   ·subst hs
    exact ⟨0,0, .inr ⟨n,l,by rw [← hM.same];rfl,hM.bd,by have:=hM.len;omega⟩⟩
   ·cases hc:cutW [10] s with
    | none=>exact ⟨_,_, .inl (by rw [← hM.same,kzv n l hs hc])⟩
    | some p=>
     obtain ⟨a,b⟩:=p
     have h1:=kfh (by simp) hc
     cases hl:kjc (n+1) l a with
     | inl e=>exact ⟨_,_, .inl (by rw [← hM.same,kp4 n l hc,hl])⟩
     | inr l'=>exact ih (n+1) l' b (by omega) (hM.next hc hl)
 obtain ⟨m,l',h1 | ⟨n',l'',h1,h2,h3⟩⟩:=key _ 0 laD s0 (qw _) (Mid.zero h0)
 ·rw [h] at h1;cases h1
 ·rw [h] at h1;cases h1;exact ⟨h2,h3⟩
theorem nil_b (s:List UInt8):((mkB s).toList == (⟨#[]⟩:BA).toList)=decide (s=[]):=ks3 s []
theorem kagz (s:List UInt8):kd3 (mkB s)=some ((outL s).2.1,(outL s).2.2,(outL s).1.name,(outL s).1.inputs,(outL s).1.symbols,(outL s).1.rules):=by
 unfold kd3 outL
 rw [kbm]
 by_cases h0:65536<s.length
 ·rw [if_pos h0,qf (show 65536<(s.length:Int) by omega)];rfl
 rw [if_neg h0,qe (show ¬ 65536<(s.length:Int) by omega),qb]
 have main:Ev (kaa kf4 fuel (mkB s,0,⟨#[]⟩,[],[],[],[])) fun r=>match kh7 0 laD s with
   | .inl (k,e)=>r = .inr (k,e)
   | .inr (n,l)=>∃ m,r = .inl ((n:Int),l.name,l.inputs,l.symbols,l.rules,m):=by
  refine kafb (fun st=>∃ n l m t,st=(mkB t,((n:Nat):Int),l.name,l.inputs,l.symbols,l.rules,m)∧Mid s n l t∧MapOk m l.symbols) (fun st=>st.1.size) (by rw [kbm];omega) ⟨0,laD,[],s,rfl,Mid.zero (by omega),MapOk.nil⟩ ?_
  rintro st ⟨n,l,m,t,rfl,hM,hm⟩
  have hl:=hM.len
  have hb:=hM.bd
  unfold kf4
  simp only [nil_b]
  by_cases ht:t=[]
  ·subst ht
   refine kn8 (b := .inl ((n:Int),l.name,l.inputs,l.symbols,l.rules,m)) rfl ?_
   rw [← hM.same,k1v]
   exact ⟨m,rfl⟩
  ·rw [qe ht,qat,qd,k5q (by rw [kbm];omega),kbh,qa,w64s n (by omega)]
   cases hc:cutW [10] t with
   | none=>
    refine kn8 (b := .inr (((n+1:Nat):Int),8)) rfl ?_
    rw [← hM.same,kzv n l ht hc]
   | some p=>
    obtain ⟨a,b⟩:=p
    have h1:=kfh (by simp) hc
    simp only [cutR,q9,qb]
    obtain ⟨r,e,hr⟩:=kajn (n:=n+1) (l:=l) (s:=a) hm (fun h=>hM.st.ins (by omega)) (by have:=hb.syms;omega) (by have:=hb.ruls;omega) (by omega)
    rw [e,qa]
    cases hl:kjc (n+1) l a with
    | inl e=>
     rw [hl] at hr
     obtain ⟨rfl,hne⟩:=hr
     rw [show (r.1 != 0)=true by rw [qa0];exact hne]
     refine kn8 (b := .inr (((n+1:Nat):Int),r.1)) rfl ?_
     rw [← hM.same,kp4 n l hc,hl]
    | inr l'=>
     rw [hl] at hr
     obtain ⟨m',rfl,hm'⟩:=hr
     refine kk2 (s:=(mkB b,((n+1:Nat):Int),l'.name,l'.inputs,l'.symbols,l'.rules,m')) rfl ⟨⟨n+1,l',m',b,rfl,hM.next hc hl,hm'⟩,?_⟩
     show (mkB b).size<(mkB t).size
     rw [kbm,kbm]
     omega
 obtain ⟨r,e,hr⟩:=main
 rw [e,qa]
 cases hR:kh7 0 laD s with
 | inl p=>
  obtain ⟨k,c⟩:=p
  rw [hR] at hr
  simp only at hr
  subst hr
  rfl
 | inr p=>
  obtain ⟨n,l⟩:=p
  rw [hR] at hr
  obtain ⟨m,rfl⟩:=hr
  obtain ⟨hB,hn⟩:=kaei (by omega) hR
  simp only [qg,finL]
  by_cases h2:n<2
  ·rw [if_pos h2,qf (show (n:Int)<2 by omega),qd,w64s n (by omega)];rfl
  ·rw [if_neg h2,qe (show ¬ (n:Int)<2 by omega),qb]
   have hc:=(k24 (hB.wide (by omega))).1
   rw [show La.mk l.name l.inputs l.symbols l.rules=l from rfl,hc,qa]
   by_cases hz:chk l=0
   ·rw [if_neg fun h=>h hz,hz];rfl
   ·rw [if_pos hz,show (chk l != 0)=true by rw [qa0];exact hz];rfl
end Go.Proofs.YtaimpcnpifoidaaGreatDoor
set_option linter.unusedVariables false
set_option linter.unusedSimpArgs false
set_option maxRecDepth 100000
namespace Go.Proofs.YtaimpcnpifoidaaGreatDoor
open Go Go.RowKit
end Go.Proofs.YtaimpcnpifoidaaGreatDoor
set_option linter.unusedVariables false
set_option linter.unusedSimpArgs false
set_option maxRecDepth 100000
namespace Go.Proofs.YtaimpcnpifoidaaGreatDoor
open Go Go.RowKit
theorem kakq (l:La):La.mk l.name l.inputs l.symbols l.rules=l:=rfl
theorem kacr {l:La} (h:ModL l):kfi l l=some true:=by
 obtain ⟨c,h1,h2⟩:=kadb h h
 rw [h1,h2.2 rfl]
theorem ksp (l:La) (hl:kga l):kea l=some true:=by
 unfold kea
 rw [kakn,qa,kag0]
 cases (decide (l.rules.length≤20) && decide (l.symbols.length≤8)) with
 | false=>rfl
 | true=>
  obtain ⟨c,c1,c2,c3⟩:=kado hl
  obtain ⟨d,d1,d2,d3⟩:=kadg hl
  obtain rfl:c=d:=by
   have:=k24 hl
   rw [this.1] at c1
   rw [this.2.1] at d1
   rw [← qq c1,← qq d1]
  rw [q9,qb,c3,d3]
  simp only [qa,qa2,q9,qb,bne_self_eq_false]
  by_cases hc:c=0
  ·subst hc
   have hv:=c2.1 rfl
   rw [if_pos rfl]
   simp only [bne_self_eq_false,qb,qa,kbm]
   by_cases hs:65536<(kj0 l).length
   ·rw [qf (show 65536<((kj0 l).length:Int) by omega)];rfl
   ·rw [qe (show ¬ 65536<((kj0 l).length:Int) by omega)]
    have hr:=kae2 hl hv
    have hz:chk l=0:=(k24 hl).2.2.2 hv
    have h1:=hv.sym1
    have ho:outL (kj0 l)=(l,0,0):=by
     unfold outL
     rw [if_neg hs,hr]
     simp only [finL]
     rw [if_neg (by omega),if_neg (fun h=>h hz)]
    have hm:ModL l:=⟨by have:=hv.inputs;omega,by have:=hv.sym16;omega,by have:=hv.rules;omega,fun r hr=>by
     obtain ⟨j,hj,rfl⟩:=qu.1 hr
     exact ValidR.modR (hl.wide _ hr) (hv.valid j hj)⟩
    rw [qb,kagz,ho]
    simp only [qa,qa2,qd,kakq,kacr hm]
  ·rw [if_neg hc]
   simp only [show (c != 0)=true by rw [qa0];exact hc,qd,qa]
end Go.Proofs.YtaimpcnpifoidaaGreatDoor
set_option linter.unusedVariables false
set_option linter.unusedSimpArgs false
set_option maxRecDepth 100000
namespace Go.Proofs.YtaimpcnpifoidaaGreatDoor
open Go Go.RowKit Go.ChangeShapes Go.WideShapes
theorem kah4:Tryz.checked.prog.liftsFinal=false:=by as_aux_lemma=>kernel_rfl
end Go.Proofs.YtaimpcnpifoidaaGreatDoor
set_option linter.unusedVariables false
set_option linter.unusedSimpArgs false
set_option maxRecDepth 100000
namespace Go.Proofs.YtaimpcnpifoidaaGreatDoor
open Go Go.RowKit Go.ChangeShapes Go.WideShapes
theorem k79:Tryz.checked.prog.mayEnter=true:=by as_aux_lemma=>kernel_rfl
end Go.Proofs.YtaimpcnpifoidaaGreatDoor
set_option linter.unusedVariables false
set_option linter.unusedSimpArgs false
set_option maxRecDepth 100000
namespace Go.Proofs.YtaimpcnpifoidaaGreatDoor
open Go Go.RowKit Go.ChangeShapes Go.WideShapes
theorem kakt:Tryz.checked.prog.make=some .cut:=by as_aux_lemma=>kernel_rfl
end Go.Proofs.YtaimpcnpifoidaaGreatDoor
set_option linter.unusedVariables false
set_option linter.unusedSimpArgs false
namespace Go.Proofs.YtaimpcnpifoidaaGreatDoor
open Go Go.RowKit Go.ChangeShapes Go.WideShapes Go.ChangeAt
set_option maxRecDepth 100000 in
theorem kqs (os:Os) (started:os.Started) (H:Type) (enc:TypeId×Value→H):
  ReturnsInHanded {} Tryz.checked os 6 .any (fun w args=>(Rows.notationLanguagesSpec.pre enc Tryz.prog Tryz.f6 Rows.notationLanguagesRow.domain false w args∧laidMetH Tryz.prog Rows.notationLanguagesRow.laid w)∧sizedMet enc Tryz.prog Tryz.f6 (OpenSpec.ofChange Rows.notationLanguagesSpec) false w args) (Rows.notationLanguagesSpec.post enc Tryz.prog Tryz.f6 false true false false):=by
 refine kvn (C:=Tryz.checked) (X:=fun w _=>laidMetH Tryz.prog kwu w) (fun _ _ _ hh h=>h.of_heap hh) kad6 started (by kernel_rfl) Tryz.func6
  (ChangeSpec.witness_at (enc:=enc) (C:=Tryz.checked) (os:=os) (X:=fun w _=>laidMetH Tryz.prog kwu w) false (k1b os) #[.agg #[.string ⟨#[]⟩, .slice none 0 0, .slice none 0 0, .slice none 0 0]] 8 rfl (by kernel_rfl) (by kernel_rfl) (by kernel_rfl) (by kernel_rfl) (by kernel_rfl) (k2j os _)) ?_
 intro W base args ds gs before hval0 hW hL hsh
 have hval:∀ (j:Nat) t v,Tryz.f6.params[j]?=some t→args[j]?=some v→Value.okWide Tryz.prog W .any base t v:=hval0
 have hW':=hW
 obtain ⟨p,q,hA0,hV,rfl,hfz,hnd⟩:=hW
 have hA:DataW.TrodAll enc Tryz.prog W 0 (fun _=>true) true Tryz.f6.params.toList args.toList ds p:=hA0
 rw [Tryz.params6] at hA hval
 obtain ⟨v0,vs0,d0,ds0,p0,q0,hargs,rfl,rfl,h0,r0⟩:=trodAll_cons hA
 obtain ⟨rfl,rfl,rfl⟩:=trodAll_nil r0
 obtain rfl:args=#[v0]:=by cases args;simp_all
 obtain ⟨rfl,rfl⟩:=trodVars_none hV
 obtain ⟨x0,e0,b0⟩:=in_La (hval 0 26 v0 rfl rfl) h0
 refine (k86 (args:=[eLa x0]) (kk7 x0 true (ksp x0 b0)) rfl ?_ (kakl hL hsh)).mono fun e W' ⟨he,hg⟩=>?_
 ·intro i v x hv hx
  match i with
  | 0=>simp at hv hx;subst hv hx;exact e0
  | i+1=>simp at hv
 subst he
 exact ⟨_,rfl,kaeo kad2 (by rw [Tryz.params6];intro t ht;simp at ht;rcases ht with rfl <;> exact ⟨by kernel_rfl,qaf (by kernel_rfl)⟩) rfl Tryz.underlying4 rfl rfl hW' hg⟩
set_option maxHeartbeats 4000000 in
theorem kq2:joinedFacts Tryz.checked.prog 6 Tryz.f6 Rows.notationLanguagesSpec Rows.notationLanguagesRow=true:=by
 unfold joinedFacts
 simp only [k79,kah4,kakt,kaj1,kai8,kaij,qx,Bool.and_true]
 repeat' apply And.intro
 all_goals (as_aux_lemma=>kernel_rfl)
theorem krd:Rows.NotationLanguagesSaid:=
 OpenClaim.holds_of_wide 6 Tryz.f6 rfl rfl rfl rfl rfl rfl rfl ⟨rfl,rfl,rfl,rfl,rfl⟩ rfl rfl rfl rfl rfl (by kernel_rfl) Tryz.func6 kq2
  (qaf (by kernel_rfl)) (by unfold Func.isWrapper;rw [if_neg (qap (by kernel_rfl))];exact ⟨rfl,rfl⟩)
  (fun os started H enc _=>kqs os started H enc)
theorem notationLanguages_card_holds:Rows.NotationLanguagesCardSaid:=
 Claim7.holds_tied_plain_at .later [] [.data, .data, .data, .data, .pinned] true (true, "aad9bf91ff3f5c2232ad5298ebe3199df4dc9cce42722f6e274e8872ef87a7c0") true krd (fun _ h => by cases h) (by kernel_rfl) (fun _ h => by cases h) notationLanguages_row_tie rfl ⟨rfl, rfl⟩ (by kernel_rfl) rfl
  (fun f fn hf hfn=>by
   obtain rfl : f = 6 := qq ((show Tryz.prog.funcNamed "synthesis/synthesislaw14.NotationLanguages" = some 6 by kernel_rfl).symm.trans hf) |>.symm
   obtain rfl:fn=Tryz.f6:=(qq (Tryz.func6.symm.trans hfn)).symm
   exact ⟨by kernel_rfl,fun j t ht=>by
    rw [Tryz.params6] at ht
    match j with
    | 0=>obtain rfl:=qq ht;exact (show Tryz.prog.wantsStandIn 26=false by kernel_rfl)
    | j+1=>simp at ht⟩)
  (by kernel_rfl)
end Go.Proofs.YtaimpcnpifoidaaGreatDoor
