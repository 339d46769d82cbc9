import Derived.Test.YtaimpcnpifoidaaGreatDoorZE
import Derived.Test.YtaimpcnpifoidaaGreatDoorNb
set_option linter.unusedVariables false
set_option linter.unusedSimpArgs false
set_option maxRecDepth 100000
namespace Go.Proofs.YtaimpcnpifoidaaGreatDoor
open Go Go.RowKit Go.Proofs
theorem kag0:kez=some true:=by kernel_rfl
end Go.Proofs.YtaimpcnpifoidaaGreatDoor
set_option linter.unusedVariables false
set_option linter.unusedSimpArgs false
set_option maxRecDepth 100000
namespace Go.Proofs.YtaimpcnpifoidaaGreatDoor
open Go Go.RowKit
def bsOf (s:BA):List UInt8:=s.data.toList
theorem kfw (s:BA):mkB (bsOf s)=s:=by simp [mkB,bsOf]
theorem kkk (s:BA):(bsOf s).length=s.size:=by cases s;rfl
def ruD:Ru:=Ru.mk 0 0 0 (Va.mk 0 0 ⟨#[]⟩ []) ⟨#[]⟩ []
def ker (l:La) (i:Int):Ru:=l.rules.getD i.toNat ruD
theorem k42 {l:La} {i:Int} (h0:0≤i) (h1:i<(l.rules.length:Int)):idx l.rules i=some (ker l i)∧ker l i∈l.rules:=by
 have hlt:i.toNat<l.rules.length:=by omega
 have e:ker l i=l.rules[i.toNat]:=by unfold ker;simp [List.getD,List.getElem?_eq_getElem hlt]
 rw [e]
 refine ⟨?_,qr hlt⟩
 unfold idx
 rw [if_pos h0,List.getElem?_eq_getElem hlt]
def kk3 (r:Ru):List UInt8:=if r.kind=1 then 105::110::kdg r.input else kae r.const
mutual
def txT (l:La):Tm→List UInt8
 | .mk i ys=>if (ker l i).kind=3 then bsOf (ker l i).op++(40::(kaw (txTs l ys)++[41])) else kk3 (ker l i)
def txTs (l:La):List Tm→List (List UInt8)
 | []=>[]
 | t::ts=>txT l t::txTs l ts
end
theorem kx1 (l:La):∀ ts:List Tm,txTs l ts=ts.map (txT l)
 | []=>rfl
 | t::ts=>by rw [txTs,kx1 l ts];rfl
inductive OkT (l:La):Tm→Prop
 | mk {i:Int} {ys:List Tm} (h0:0≤i) (h1:i<(l.rules.length:Int)) (hl:(ker l i).kind=3→ys≠[]) (ha:∀ a∈ys,OkT l a):OkT l (.mk i ys)
theorem ktg:∀ (ls:List (List UInt8)) (x:List UInt8),ls≠[]→kaw (ls++[x])=kaw ls++(44::32::x)
 | [],x,h=>absurd rfl h
 | [a],x,_=>by simp [kaw]
 | a::b::ls,x,_=>by
  have:=ktg (b::ls) x (by simp)
  simp only [qah] at this ⊢
  simp only [kaw,this]
  simp
theorem kxm:∀ ls:List (List UInt8),(kaw ls).length≤(ls.map fun x=>x.length+2).sum
 | []=>by simp [kaw]
 | [a]=>by simp [kaw]
 | a::b::ls=>by
  have:=kxm (b::ls)
  simp only [kaw,qac,List.sum_cons,ql,qi,qn] at this ⊢
  omega
theorem k3w {r:Ru} (h:WrR r) (hk:r.kind≠1→kg5 r.const):(kk3 r).length≤60000:=by
 unfold kk3
 split
 ·have:=krt (n:=r.input) (by have:=h.inp.1;omega) (by have:=h.inp.2;omega)
  simp only [qi];omega
 ·rename_i hne;exact k1d (hk hne)
structure OkL (l:La):Prop where
 wr:∀ r∈l.rules,WrR r
 kind:∀ r∈l.rules,r.kind=1∨r.kind=2∨r.kind=3
theorem OkL.val {l:La} (h:OkL l) {r:Ru} (hr:r∈l.rules) (h1:r.kind≠1) (h3:r.kind≠3):r.kind=2∧kg5 r.const:=by
 rcases h.kind r hr with h | h2 | h
 ·exact absurd h h1
 ·exact ⟨h2,((h.wr r hr).const h2).1⟩
 ·exact absurd h h3
theorem kabd {l:La} (hw:OkL l):∀ t,OkT l t→(txT l t).length+2≤70000*t.size:=by
 refine Tm.ind fun i ys ih=>?_
 rintro ⟨h0,h1,hl,ha⟩
 obtain ⟨_,hm⟩:=k42 h0 h1
 have hr:=hw.wr _ hm
 have hsz:(Tm.mk i ys).size=Tm.sizeL ys+1:=rfl
 rw [hsz]
 unfold txT
 split
 ·have key:∀ ts:List Tm,(∀ t∈ts,(txT l t).length+2≤70000*t.size)→((ts.map (txT l)).map fun x=>x.length+2).sum≤70000*Tm.sizeL ts:=by
   intro ts
   induction ts with
   | nil=>intro _;simp
   | cons t ts iht=>
    intro h
    have e:Tm.sizeL (t::ts)=t.size+Tm.sizeL ts:=rfl
    have q1:=h t (by simp)
    have q2:=iht fun x hx=>h x (by simp [hx])
    simp only [qac,List.sum_cons,e,Nat.mul_add] at *
    omega
  have k:=key ys fun t ht=>ih t ht (ha t ht)
  have j:=kxm (ys.map (txT l))
  have ho:=hr.op
  rw [kx1]
  simp only [ql,qi,qn,kkk]
  omega
 ·rename_i hk
  have:=k3w hr fun h=>(hw.val hm h hk).2
  omega
theorem kakh {l:La} (hw:OkL l) {r:Ru} (hr:r∈l.rules) (h3:r.kind≠3):kgx r=some (mkB (kk3 r)):=by
 have h:=hw.wr r hr
 unfold kgx kk3
 by_cases h1:r.kind=1
 ·have hlen:=krt (n:=r.input) (by have:=h.inp.1;omega) (by have:=h.inp.2;omega)
  simp only [h1,qa2,qd,if_true,h.inp.itoa,qa]
  rw [show ((⟨#[105,110]⟩:BA))=mkB [105,110] from rfl,kcb (by simp;omega)]
  rfl
 ·obtain ⟨h2,_⟩:=hw.val hr h1 h3
  rw [show (r.kind == 1)=false from beq_false_of_ne h1,qb,if_neg h1,(h.const h2).2.1]
  rfl
theorem kaj0 {l:La} (hw:OkL l) {r:Ru} (hr:r∈l.rules) (h3:r.kind≠3):(bif (r.kind == 1) then (Option.bind (kfr (r.input)) fun v2=>(Option.bind (cat (⟨#[105,110]⟩:BA) v2) fun v3=>(some v3))) else (Option.bind (ke5 (r.const)) fun v4=>(some v4.1)))=some (mkB (kk3 r)):=by
 have h:=hw.wr r hr
 unfold kk3
 by_cases h1:r.kind=1
 ·have hlen:=krt (n:=r.input) (by have:=h.inp.1;omega) (by have:=h.inp.2;omega)
  simp only [h1,qa2,qd,if_true,h.inp.num,qa]
  rw [show ((⟨#[105,110]⟩:BA))=mkB [105,110] from rfl,kcb (by simp;omega)]
  rfl
 ·obtain ⟨h2,_⟩:=hw.val hr h1 h3
  rw [show (r.kind == 1)=false from beq_false_of_ne h1,qb,if_neg h1,(h.const h2).2.2]
  rfl
def preB (l:La) (ys:List Tm) (k:Nat):List UInt8:=if k=0 then [] else 40::kaw ((ys.take k).map (txT l))
theorem kyn {l:La} (hw:OkL l) {ys:List Tm} (ha:∀ a∈ys,OkT l a) (k:Nat):(preB l ys k).length≤70000*Tm.sizeL ys+1:=by
 have key:∀ ts:List Tm,(∀ t∈ts,(txT l t).length+2≤70000*t.size)→((ts.map (txT l)).map fun x=>x.length+2).sum≤70000*Tm.sizeL ts:=by
  intro ts
  induction ts with
  | nil=>intro _;simp
  | cons t ts iht=>
   intro h
   have e:Tm.sizeL (t::ts)=t.size+Tm.sizeL ts:=rfl
   have q1:=h t (by simp)
   have q2:=iht fun x hx=>h x (by simp [hx])
   simp only [qac,List.sum_cons,e,Nat.mul_add] at *
   omega
 unfold preB
 split
 ·simp
 ·have k1:=key (ys.take k) fun t ht=>kabd hw t (ha t (List.mem_of_mem_take ht))
  have k2:=kxm ((ys.take k).map (txT l))
  have k3:Tm.sizeL (ys.take k)≤Tm.sizeL ys:=Tm.sizeL_take ys k
  simp only [qi]
  omega
theorem k6c {l:La} (hw:OkL l):∀ (n:Nat) (t:Tm),t.size≤n→t.size≤1000→OkT l t→kd8 n l t=some (mkB (txT l t))
 | 0,t,h,_,_=>by have:=Tm.size_pos t;omega
 | n+1, .mk i ys,hn,hs,⟨h0,h1,hl,ha⟩=>by
  have hsz:(Tm.mk i ys).size=Tm.sizeL ys+1:=rfl
  obtain ⟨e1,hm⟩:=k42 h0 h1
  have hr:=hw.wr _ hm
  have ho:=hr.op
  show kgs (kd8 n) l (.mk i ys)=_
  unfold kgs txT
  rw [show (Tm.mk i ys).rule=i from rfl,e1]
  simp only [qa]
  by_cases h3:(ker l i).kind=3
  ·have hob:=kkk (ker l i).op
   rw [if_pos h3,show ((ker l i).kind == 1)=false by rw [h3];rfl,show ((ker l i).kind == 2)=false by rw [h3];rfl,qb,qb]
   have c1:cat (ker l i).op (⟨#[40]⟩:BA)=some (mkB (bsOf (ker l i).op++[40])):=by
    rw [show (⟨#[40]⟩:BA)=mkB [40] from rfl]
    conv=>lhs;rw [← kfw (ker l i).op]
    exact kcb (by rw [hob];simp;omega)
   rw [c1,qa]
   have hal:ys.length≤Tm.sizeL ys:=k3q ys
   have hne:=hl h3
   have main:Ev (kaa (kgf l (.mk i ys) (kd8 n)) fuel (mkB (bsOf (ker l i).op++[40]),0)) (·=mkB (bsOf (ker l i).op++(40::kaw ((ys.take ys.length).map (txT l))))):=by
    refine kh2 ys.length (fun k s=>s=(mkB (bsOf (ker l i).op++(40::kaw ((ys.take k).map (txT l)))),(k:Int))) (by omega) (by simp [kaw]) (fun k s hk hI=>?_) fun s hI=>?_
    ·subst hI
     have hak:=ha _ (qr hk)
     have hsk:=Tm.sizeL_mem (qr hk)
     have htl:=kabd hw _ hak
     have hp:=kyn hw ha (k+1)
     have hp0:=kyn hw ha k
     have e0:(kaw ((ys.take k).map (txT l))).length≤70000*Tm.sizeL ys+1:=by
      unfold preB at hp0
      by_cases hk0:k=0
      ·subst hk0;simp [kaw]
      ·rw [if_neg hk0] at hp0;simp only [qi] at hp0;omega
     refine kk2 (s:=(mkB (bsOf (ker l i).op++(40::kaw ((ys.take (k+1)).map (txT l)))),((k+1:Nat):Int))) ?_ rfl
     have w2:=k6c hw n ys[k] (by omega) (by omega) hak
     rw [qar hk,List.map_append]
     simp only [kgf,show (Tm.mk i ys).args=ys from rfl,kbe hk,qd,kal,List.getElem?_eq_getElem hk,qa,w2,w64s k (by omega),qac,List.map_nil]
     by_cases hk0:k=0
     ·subst hk0
      rw [show decide ((0:Int)<((0:Nat):Int))=false from rfl,qb,qa,kcb (by simp only [ql,qi];omega)]
      simp [kaw]
     ·have hnk:(ys.take k).map (txT l)≠[]:=by
       intro e
       have:=congrArg List.length e
       simp at this
       rcases this with h' | h'
       ·exact hk0 h'
       ·rw [h'] at hk;simp at hk
      rw [show decide ((0:Int)<(k:Int))=true from qf (by omega),qd,show (⟨#[44,32]⟩:BA)=mkB [44,32] from rfl,kcb (by simp only [ql,qi,qn];omega),qa,qa,
       kcb (by simp only [ql,qi,qn];omega),qa,ktg _ _ hnk]
      simp
    ·subst hI
     refine kkp (b:=mkB (bsOf (ker l i).op++(40::kaw ((ys.take ys.length).map (txT l))))) ?_ rfl
     simp only [kgf,show (Tm.mk i ys).args=ys from rfl,ket,qb]
   have hpl:=kyn hw ha ys.length
   have hpre:(kaw ((ys.take ys.length).map (txT l))).length≤70000*Tm.sizeL ys+1:=by
    unfold preB at hpl
    rw [if_neg (by intro e;exact hne (qy e))] at hpl
    simp only [qi] at hpl;omega
   rw [main.eq,qa,show (⟨#[41]⟩:BA)=mkB [41] from rfl,kcb (by simp only [ql,qi,qn];omega),qa,qas,kx1]
   simp
  ·rw [if_neg h3]
   have hk:=kaj0 hw hm h3
   by_cases hk1:(ker l i).kind=1
   ·rw [show ((ker l i).kind == 1)=true by rw [hk1];rfl,qd] at hk ⊢
    exact hk
   ·obtain ⟨h2,_⟩:=hw.val hm hk1 h3
    rw [show ((ker l i).kind == 1)=false from beq_false_of_ne hk1,qb] at hk ⊢
    rw [show ((ker l i).kind == 2)=true by rw [h2];rfl,qd]
    exact hk
end Go.Proofs.YtaimpcnpifoidaaGreatDoor
set_option linter.unusedVariables false
set_option linter.unusedSimpArgs false
set_option maxRecDepth 100000
namespace Go.Proofs.YtaimpcnpifoidaaGreatDoor
open Go Go.RowKit
end Go.Proofs.YtaimpcnpifoidaaGreatDoor
set_option linter.unusedVariables false
set_option linter.unusedSimpArgs false
set_option maxRecDepth 100000
namespace Go.Proofs.YtaimpcnpifoidaaGreatDoor
open Go Go.RowKit
theorem k5e:opNames.all (fun n=>(kbk n).all fun o=>decide (1≤o.1.f_Args.length))=true:=by kernel_rfl
theorem ValidL.okL {l:La} (hw:kga l) (h:ValidL l):OkL l:=by
 refine ⟨(ko2 hw h).ruls,fun r hr=>?_⟩
 obtain ⟨i,hi,rfl⟩:=qu.1 hr
 rcases (h.valid i hi).2 with q | q | q
 ·exact .inl q.1
 ·exact .inr (.inl q.1)
 ·exact .inr (.inr q.1)
theorem ValidL.one {l:La} (h:ValidL l):∀ x∈l.rules,x.kind=3→1≤x.args.length:=by
 intro r hr hk
 obtain ⟨i,hi,rfl⟩:=qu.1 hr
 rcases (h.valid i hi).2 with q | q | q
 ·have:=q.1;omega
 ·have:=q.1;omega
 ·obtain ⟨_,_,_,o,q4,q5,_⟩:=q
  have hin:=k0r q4
  have:=qp.1 k5e _ hin
  rw [q4] at this
  have h1:1≤o.f_Args.length:=by simpa using this
  omega
theorem kakn (l:La):khw l=some (decide (l.rules.length≤20) && decide (l.symbols.length≤8)):=by
 unfold khw
 by_cases h1:l.rules.length≤20
 ·rw [qf (show (l.rules.length:Int)≤20 by omega),qf h1]
  simp only [qd,qa,Bool.true_and]
  congr 1
  exact decide_eq_decide.2 (by omega)
 ·rw [qe (show ¬ (l.rules.length:Int)≤20 by omega),qe h1]
  rfl
end Go.Proofs.YtaimpcnpifoidaaGreatDoor
