import Derived.Test.YtaimpcnpifoidaaGreatDoorSh
import Derived.WalkKit
import Derived.WalkSpells
import Derived.WalkLawsBesides
import Derived.Lib.Hide
import Derived.KernelRfl
set_option linter.unusedVariables false
set_option linter.unusedSimpArgs false
namespace Go.Proofs.YtaimpcnpifoidaaGreatDoor
open Go Go.RowKit
inductive Gd where
 | det (c:Value)
 | rel (G:Value→World→Prop) (h:∀ v w w',G v w→Below w.heap.size w w'→G v w')
def Gd.holds:Gd→Value→World→Prop
 | .det c,v,_=>v=c
 | .rel G _,v,w=>G v w
def RetBy (R:Value→World→Prop) (e:Ending) (w:World):Prop:=∃ u,e = .returned u∧R u w
def kqk (P:Program) (R:Value→World→Prop):Result Next→Prop
 | .ok (.value u) w'=>R u w'
 | .ok .skip w'=>R undef w'
 | .ok (.enter f args) w'=>Calls P f args w' (RetBy R)
 | _=>False
def khr (P:Program) (o:Oper) (a:Act) (w:World) (R:Value→World→Prop):Prop:=kqk P R ((execOp a.eval o).run P w)
def kmp (o:Oper) (j:Nat):Bool:=o.after.toList.any fun e=>e.on == j && Region.binds .any e
def kzj (l:List Oper):Array Nat:=
 l.foldl (fun acc o=>acc.push (o.after.toList.foldl (fun s e=>if Region.binds .any e then s ||| 2 ^ e.on ||| acc.getD e.on 0 else s) 0)) #[]
def relB (l:List Oper) (n s:Nat):Bool:=
 let m:=kzj l
 Region.noSelect l.toArray && decide (n≤l.length) &&
 (l.zipIdx.all fun (o,k)=>o.after.toList.all fun e=>!Region.binds .any e || decide (e.on<k)) &&
 ((l.take n).all fun o=>match o.dst with | some d=>decide (d<s) | none=>true) &&
 ((l.take n).zipIdx.all fun (o,i)=>(l.take n).zipIdx.all fun (p,j)=>i == j || o.dst.isNone || o.dst != p.dst) &&
 ((l.take n).zipIdx.all fun (o,i)=>(o.looksAt l.toArray).all fun t=>(l.take n).zipIdx.all fun (p,j)=>i == j || p.dst != some t || kmp o j || kmp p i) &&
 (l.zipIdx.all fun (_,k)=>decide (k<n) || (List.range k).all fun j=>(m.getD k 0).testBit j)
section
variable {P:Program}
theorem kud {o:Oper} {a:Act} {w:World} {R R':Value→World→Prop} (h:∀ v w',R v w'→R' v w') (hh:khr P o a w R):khr P o a w R':=by
 unfold khr at *
 generalize (execOp a.eval o).run P w=r at *
 cases r with
 | ok n w'=>
  cases n <;> simp only [kqk] at hh ⊢
  case enter f args=>exact hh.mono fun e w'' ⟨u,he,hu⟩=>⟨u,he,h _ _ hu⟩
  all_goals exact h _ _ hh
 | halt x w'=>simp only [kqk] at hh
theorem ksg {o:Oper} {a:Act} {w:World} {R:Value→World→Prop} {K:Act→World→Prop} {Q:Exit→Act→World→Prop}
  (h:∀ v w',R v w'→K (a.put o.dst v) w') (hh:khr P o a w R):o.wp P a w K Q:=by
 unfold khr at hh
 unfold Oper.wp
 generalize (execOp a.eval o).run P w=r at *
 cases r with
 | ok n w'=>
  cases n <;> simp only [kqk] at hh <;> simp only [Oper.upon]
  case enter f args=>exact hh.mono fun e w'' ⟨u,he,hu⟩=>by subst he;exact h _ _ hu
  all_goals exact h _ _ hh
 | halt x w'=>simp only [kqk] at hh
def Good (l:List Oper) (acc:Array Nat):Prop:=
 acc.size=l.length∧∀ k o,l[k]?=some o→∀ j,(acc.getD k 0).testBit j=true →
  ∃ e∈o.after,Region.binds .any e=true∧(e.on=j∨(e.on<k∧(acc.getD e.on 0).testBit j=true))
theorem k2e (acc:Array Nat) (j:Nat):∀ (es:List Edge) (s:Nat),
  (es.foldl (fun s e=>if Region.binds .any e then s ||| 2 ^ e.on ||| acc.getD e.on 0 else s) s).testBit j=true →
  s.testBit j=true∨∃ e∈es,Region.binds .any e=true∧(e.on=j∨(acc.getD e.on 0).testBit j=true)
 | [],s,h => .inl h
 | e::es,s,h=>by
  simp only [List.foldl_cons] at h
  rcases k2e acc j es _ h with h | ⟨e',he',hb,h⟩
  ·by_cases hb:Region.binds .any e=true
   ·rw [if_pos hb,Nat.testBit_or,Nat.testBit_or,Bool.or_eq_true,Bool.or_eq_true] at h
    rcases h with (h | h) | h
    ·exact .inl h
    ·rw [Nat.testBit_two_pow] at h
     exact .inr ⟨e,by simp,hb, .inl (by simpa using h)⟩
    ·exact .inr ⟨e,by simp,hb, .inr h⟩
   ·rw [if_neg hb] at h
    exact .inl h
  ·exact .inr ⟨e',qk _ he',hb,h⟩
theorem kaa5 {l:List Oper} {acc:Array Nat} (h:Good l acc) (o:Oper):
  Good (l++[o]) (acc.push (o.after.toList.foldl (fun s e=>if Region.binds .any e then s ||| 2 ^ e.on ||| acc.getD e.on 0 else s) 0)):=by
 obtain ⟨hs,hg⟩:=h
 refine ⟨by simp [hs],fun k p hk j hj=>?_⟩
 have old:∀ i,i<acc.size→∀ x,(acc.push x).getD i 0=acc.getD i 0:=fun i hi x=>by
  simp [Array.getElem?_push,Nat.ne_of_lt hi]
 by_cases hkl:k<l.length
 ·rw [List.getElem?_append_left hkl] at hk
  rw [old k (by omega)] at hj
  obtain ⟨e,he,hb,h⟩:=hg k p hk j hj
  refine ⟨e,he,hb,h.imp id fun ⟨h1,h2⟩=>⟨h1,?_⟩⟩
  rw [old _ (by omega)]
  exact h2
 ·have hkeq:k=l.length:=by
   have:=(List.getElem?_eq_some_iff.1 hk).1
   simp at this
   omega
  subst hkeq
  simp at hk
  subst hk
  have hget:∀ x,(acc.push x).getD l.length 0=x:=fun x=>by rw [← hs];simp
  rw [hget] at hj
  rcases k2e acc j _ 0 hj with h | ⟨e,he,hb,h⟩
  ·simp at h
  ·refine ⟨e,by simpa using he,hb,?_⟩
   rcases h with h | h
   ·exact .inl h
   ·have hlt:e.on<acc.size:=by
     rcases qaz e.on acc.size with h' | h'
     ·exact h'
     ·simp [Array.getElem?_eq_none h'] at h
    exact .inr ⟨by omega,by rw [old _ hlt];exact h⟩
theorem k12:∀ (l r:List Oper) (acc:Array Nat),Good r acc →
  Good (r++l) (l.foldl (fun acc o=>acc.push (o.after.toList.foldl (fun s e=>if Region.binds .any e then s ||| 2 ^ e.on ||| acc.getD e.on 0 else s) 0)) acc)
 | [],r,acc,h=>by simpa using h
 | o::l,r,acc,h=>by
  have:=k12 l (r++[o]) _ (kaa5 h o)
  simpa using this
theorem k9e (l:List Oper):Good l (kzj l):=by
 exact k12 l [] #[] ⟨rfl,fun k o h=>by simp at h⟩
theorem kq8 {l:List Oper} {S:Nat→Prop} (hS:∀ k o,S k→l[k]?=some o→∀ e∈o.after,Region.binds .any e=true→S e.on):
  ∀ (k:Nat) (o:Oper),l[k]?=some o→(∀ e∈o.after,Region.binds .any e=true→S e.on)→∀ j,((kzj l).getD k 0).testBit j=true→S j:=by
 intro k
 induction k using Nat.strongRecOn with
 | _ k ih=>
  intro o ho hall j hj
  obtain ⟨e,he,hb,h⟩:=(k9e l).2 k o ho j hj
  rcases h with rfl | ⟨hlt,h⟩
  ·exact hall e he hb
  ·have hk:k<l.length:=(List.getElem?_eq_some_iff.1 ho).1
   have hon:l[e.on]?=some (l[e.on]'(by omega)):=List.getElem?_eq_getElem (by omega)
   exact ih e.on hlt _ hon (fun e' he' hb'=>hS e.on _ (hall e he hb) hon e' he' hb') j h
theorem kxt (a:Act) (d:Option Tmp) (v:Value):(a.put d v).tmps.size=a.tmps.size:=by
 cases d <;> simp [Act.put]
theorem k56 (a:Act) (d:Option Tmp) (v:Value):(a.put d v).defers=a.defers:=by
 cases d <;> rfl
variable {gs:List Gd} {l:List Oper} {xs:Nat→Value} {a0:Act}
theorem k0r {m:Nat} {listed:Array Bool} {i:Nat} (hi:i<m) (hu:listed.getD i true=false) (hs:i<listed.size):
  ((List.range m).countP fun k=>!(listed.setIfInBounds i true).getD k true)<(List.range m).countP fun k=>!listed.getD k true:=by
 have hsplit:List.range m=List.range i++i::(List.range (m - (i+1))).map (i+1+·):=by
  rw [show m=i+1+(m - (i+1)) by omega,List.range_add,List.range_succ]
  simp
 have hle:∀ L:List Nat,(L.countP fun k=>!(listed.setIfInBounds i true).getD k true)≤L.countP fun k=>!listed.getD k true:=fun L=>by
  refine List.countP_mono_left fun k _ hk=>?_
  by_cases hik:i=k
  ·subst hik;simp [hs] at hk
  ·rw [getD_set_ne true hik] at hk;exact hk
 rw [hsplit,List.countP_append,List.countP_append,List.countP_cons,List.countP_cons]
 have h1:=hle (List.range i)
 have h2:=hle ((List.range (m - (i+1))).map (i+1+·))
 have h3:(listed.setIfInBounds i true).getD i true=true:=by simp [hs]
 rw [h3,hu]
 simp only [qae,qat,if_true,qax,if_false]
 omega
structure kage (l:List Oper) (n s:Nat):Prop where
 sel:Region.noSelect l.toArray=true
 len:n≤l.length
 edges:∀ k o,l[k]?=some o→∀ e∈o.after,Region.binds .any e=true→e.on<k
 dst:∀ i o d,i<n→l[i]?=some o→o.dst=some d→d<s
 uniq:∀ i j o p d,i<n→j<n→l[i]?=some o→l[j]?=some p→o.dst=some d→p.dst=some d→i=j
 looks:∀ i j o p t,i<n→j<n→i≠j→l[i]?=some o→l[j]?=some p→t∈o.looksAt l.toArray→p.dst=some t→kmp o j=true∨kmp p i=true
 tail:∀ k j,k<l.length→n≤k→j<k→((kzj l).getD k 0).testBit j=true
theorem kahh {l:List Oper} {n s:Nat} (h:relB l n s=true):kage l n s:=by
 simp only [relB,qu] at h
 obtain ⟨⟨⟨⟨⟨⟨h1,h2⟩,h3⟩,h4⟩,h5⟩,h6⟩,h7⟩:=h
 have h2:n≤l.length:=by simpa using h2
 have tk:∀ i o,i<n→l[i]?=some o→(o,i)∈(l.take n).zipIdx:=fun i o hi ho=>by
  rw [List.mk_mem_zipIdx_iff_getElem?,List.getElem?_take,if_pos hi];exact ho
 refine ⟨h1,h2,?_,?_,?_,?_,?_⟩
 ·intro k o ho e he hb
  have:=qm.1 h3 (o,k) (by rw [List.mk_mem_zipIdx_iff_getElem?];exact ho)
  have:=qm.1 this e (by simpa using he)
  simpa [hb] using this
 ·intro i o d hi ho hd
  have:=qm.1 h4 o (qt (i:=i) (by rw [List.getElem?_take,if_pos hi];exact ho))
  simpa [hd] using this
 ·intro i j o p d hi hj ho hp hod hpd
  have:=qm.1 (qm.1 h5 _ (tk i o hi ho)) _ (tk j p hj hp)
  simpa [hod,hpd] using this
 ·intro i j o p t hi hj hne ho hp ht hpd
  have:=qm.1 (qm.1 (qm.1 h6 _ (tk i o hi ho)) t ht) _ (tk j p hj hp)
  simpa [hpd,hne] using this
 ·intro k j hk hnk hjk
  have:=qm.1 h7 (l[k],k) (by rw [List.mk_mem_zipIdx_iff_getElem?];exact List.getElem?_eq_getElem hk)
  simp only [Bool.or_eq_true,decide_eq_true_eq] at this
  exact qm.1 (this.resolve_left (by omega)) j (by simpa using hjk)
theorem afterB_iff {o:Oper} {j:Nat}:kmp o j=true↔∃ e∈o.after,e.on=j∧Region.binds .any e=true:=by
 unfold kmp
 rw [List.any_eq_true]
 simp
theorem kzw {l:List Oper} {n s:Nat} (ok:kage l n s) {Q:Exit→Act→World→Prop}:∀ (fuel k:Nat) (listed:Array Bool) (a:Act) (w:World),
  n≤k→k≤l.length→listed.size=l.length→(∀ i,i<l.length→(listed.getD i true=true↔i<k))→l.length - k≤fuel →
  wpList P l.toArray Q (l.drop k) a w→wpAny P .any l.toArray Q fuel listed a w:=by
 intro fuel
 induction fuel with
 | zero=>
  intro k listed a w hnk hkl hsz hlist hfuel h
  have hk:k=l.length:=by omega
  subst hk
  refine ⟨?_,by simpa [wpList] using h⟩
  rw [List.eq_nil_iff_forall_not_mem]
  intro i hi
  obtain ⟨h0,o,ho,_⟩:=mem_ready.1 hi
  have hlt:i<l.length:=by simpa using (Array.getElem?_eq_some_iff.1 ho).1
  rw [(hlist i hlt).2 hlt] at h0
  cases h0
 | succ fuel ih=>
  intro k listed a w hnk hkl hsz hlist hfuel h
  have hl2:∀ i,i<l.length→i<k→listed.getD i false=true:=fun i hi hik=>by
   have h1:=(hlist i hi).2 hik
   simp [hsz,hi] at h1 ⊢
   exact h1
  have only:∀ i∈Region.ready .any l.toArray listed,i=k∧k<l.length:=fun i hi=>by
   obtain ⟨h0,o,ho,hall⟩:=mem_ready.1 hi
   have hlt:i<l.length:=by simpa using (Array.getElem?_eq_some_iff.1 ho).1
   have hge:k≤i:=by
    rcases qaz i k with h' | h'
    ·rw [(hlist i hlt).2 h'] at h0;cases h0
    ·exact h'
   refine ⟨?_,by omega⟩
   rcases qaz k i with h' | h'
   ·exfalso
    have hS:=kq8 (l:=l) (S:=fun j=>j<i∧listed.getD j false=true) ?_ i o (by simpa using ho) ?_ k (ok.tail i k hlt (by omega) h')
    ·have:=(hlist k (by omega)).1 (by
      have:=hS.2
      simp [hsz,show k<l.length by omega] at this ⊢
      exact this)
     omega
    ·intro m p ⟨hmi,hml⟩ hp e he hb
     have hon:=ok.edges m p hp e he hb
     refine ⟨by omega,?_⟩
     have hmk:=(hlist m (by omega)).1 (by
      simp [hsz,show m<l.length by omega] at hml ⊢
      exact hml)
     exact hl2 _ (by omega) (by omega)
    ·intro e he hb
     exact ⟨ok.edges i o (by simpa using ho) e he hb,hall e he hb⟩
   ·omega
  refine ⟨fun hnil=>?_,fun i hi=>?_⟩
  ·have hk:k=l.length:=by
    rcases qaz k l.length with h' | h'
    ·exfalso
     have:k∈Region.ready .any l.toArray listed:=mem_ready.2 ⟨by
      have:=mt (hlist k h').1 (by omega)
      simpa using this,l[k],by simp [h'],fun e he hb=>by
       have hon:=ok.edges k _ (List.getElem?_eq_getElem h') e he hb
       exact hl2 _ (by omega) hon⟩
     rw [hnil] at this
     cases this
    ·omega
   subst hk
   simpa [wpList] using h
  ·obtain ⟨rfl,hlt⟩:=only i hi
   rw [qv hlt] at h
   have ho:l.toArray[i]?=some l[i]:=by simp [hlt]
   have hw:wpOp P l.toArray Q i (wpList P l.toArray Q (l.drop (i+1))) a w:=by unfold wpOp;simp only [ho];exact h
   refine wpOp_mono (fun a' w' h'=>ih (i+1) _ a' w' (by omega) (by omega) (by simp [hsz]) (fun j hj=>?_) (by omega) h') hw
   by_cases hij:i=j
   ·subst hij;simp [hsz,hlt]
   ·rw [getD_set_ne true hij,hlist j hj];omega
structure kajy (gs:List Gd) (l:List Oper) (C:World→Prop) (a0:Act) (listed:Array Bool) (a:Act) (w:World):Prop where
 inC:C w
 defers:a.defers=a0.defers
 size:a.tmps.size=a0.tmps.size
 lsize:listed.size=l.length
 closed:∀ k o,listed.getD k false=true→l[k]?=some o→∀ e∈o.after,Region.binds .any e=true→listed.getD e.on false=true
 vals:∃ xs:Nat→Value,∀ j g,gs[j]?=some g→listed.getD j false=true→g.holds (xs j) w∧∀ o d,l[j]?=some o→o.dst=some d→a.tmps[d]?=some (xs j)
 rest:∀ t,(∀ j o,listed.getD j false=true→l[j]?=some o→o.dst≠some t)→a.tmps[t]?=a0.tmps[t]?
theorem kajm {listed:Array Bool} {i:Nat} (h:listed.getD i true=false):listed.getD i false=false:=by
 rcases qaz i listed.size with h' | h'
 ·simp [h'] at h ⊢; exact h
 ·simp [Array.getElem?_eq_none h']
theorem gD_lt {listed:Array Bool} {i:Nat} (h:listed.getD i false=true):i<listed.size:=by
 rcases qaz i listed.size with h' | h'
 ·exact h'
 ·simp [Array.getElem?_eq_none h'] at h
theorem kvw (m j:Nat):(Array.replicate m false).getD j false=false:=by
 rcases qaz j m with h | h <;> simp [h]
end
attribute [go_sem] khr kqk
end Go.Proofs.YtaimpcnpifoidaaGreatDoor
