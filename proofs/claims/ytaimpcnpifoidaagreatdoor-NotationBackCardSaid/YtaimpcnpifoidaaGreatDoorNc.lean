import Derived.Test.YtaimpcnpifoidaaGreatDoorZE
import Derived.Test.YtaimpcnpifoidaaGreatDoorNb
set_option linter.unusedVariables false
set_option linter.unusedSimpArgs false
set_option maxRecDepth 100000
namespace Go.Proofs.YtaimpcnpifoidaaGreatDoor
open Go Go.RowKit Go.Proofs
theorem kaia:kej=some true:=by kernel_rfl
end Go.Proofs.YtaimpcnpifoidaaGreatDoor
set_option linter.unusedVariables false
set_option linter.unusedSimpArgs false
set_option maxRecDepth 100000
namespace Go.Proofs.YtaimpcnpifoidaaGreatDoor
open Go Go.RowKit
def bsOf (s:BA):List UInt8:=s.data.toList
theorem koj (s:BA):mkB (bsOf s)=s:=by simp [mkB,bsOf]
theorem kuj (s:BA):(bsOf s).length=s.size:=by cases s;rfl
def ruD:Ru:=Ru.mk 0 0 0 (Va.mk 0 0 ⟨#[]⟩ []) ⟨#[]⟩ []
def kad (l:La) (i:Int):Ru:=l.rules.getD i.toNat ruD
theorem khj {l:La} {i:Int} (h0:0≤i) (h1:i<(l.rules.length:Int)):idx l.rules i=some (kad l i)∧kad l i∈l.rules:=by
 have hlt:i.toNat<l.rules.length:=by omega
 have e:kad l i=l.rules[i.toNat]:=by unfold kad;simp [List.getD,List.getElem?_eq_getElem hlt]
 rw [e]
 refine ⟨?_,qn hlt⟩
 unfold idx
 rw [if_pos h0,List.getElem?_eq_getElem hlt]
def knr (r:Ru):List UInt8:=if r.kind=1 then 105::110::kb7 r.input else kac r.const
mutual
def txT (l:La):Tm→List UInt8
 | .mk i ys=>if (kad l i).kind=3 then bsOf (kad l i).op++(40::(kba (txTs l ys)++[41])) else knr (kad l i)
def txTs (l:La):List Tm→List (List UInt8)
 | []=>[]
 | t::ts=>txT l t::txTs l ts
end
theorem kom (l:La):∀ ts:List Tm,txTs l ts=ts.map (txT l)
 | []=>rfl
 | t::ts=>by rw [txTs,kom l ts];rfl
inductive OkT (l:La):Tm→Prop
 | mk {i:Int} {ys:List Tm} (h0:0≤i) (h1:i<(l.rules.length:Int)) (hl:(kad l i).kind=3→ys≠[]) (ha:∀ a∈ys,OkT l a):OkT l (.mk i ys)
theorem kus:∀ (ls:List (List UInt8)) (x:List UInt8),ls≠[]→kba (ls++[x])=kba ls++(44::32::x)
 | [],x,h=>absurd rfl h
 | [a],x,_=>by simp [kba]
 | a::b::ls,x,_=>by
  have:=kus (b::ls) x (by simp)
  simp only [qag] at this ⊢
  simp only [kba,this]
  simp
theorem kx4:∀ ls:List (List UInt8),(kba ls).length≤(ls.map fun x=>x.length+2).sum
 | []=>by simp [kba]
 | [a]=>by simp [kba]
 | a::b::ls=>by
  have:=kx4 (b::ls)
  simp only [kba,qah,List.sum_cons,ql,qq,qab] at this ⊢
  omega
theorem k4b {r:Ru} (h:WrR r) (hk:r.kind≠1→kgh r.const):(knr r).length≤60000:=by
 unfold knr
 split
 ·have:=kr8 (n:=r.input) (by have:=h.inp.1;omega) (by have:=h.inp.2;omega)
  simp only [qq];omega
 ·rename_i hne;exact k07 (hk hne)
structure OkL (l:La):Prop where
 wr:∀ r∈l.rules,WrR r
 kind:∀ r∈l.rules,r.kind=1∨r.kind=2∨r.kind=3
theorem OkL.val {l:La} (h:OkL l) {r:Ru} (hr:r∈l.rules) (h1:r.kind≠1) (h3:r.kind≠3):r.kind=2∧kgh r.const:=by
 rcases h.kind r hr with h | h2 | h
 ·exact absurd h h1
 ·exact ⟨h2,((h.wr r hr).const h2).1⟩
 ·exact absurd h h3
theorem k45 {l:La} (hw:OkL l):∀ t,OkT l t→(txT l t).length+2≤70000*t.size:=by
 refine Tm.ind fun i ys ih=>?_
 rintro ⟨h0,h1,hl,ha⟩
 obtain ⟨_,hm⟩:=khj h0 h1
 have hr:=hw.wr _ hm
 have hsz:(Tm.mk i ys).size=Tm.sizeL ys+1:=rfl
 rw [hsz]
 unfold txT
 split
 ·have key:∀ ts:List Tm,(∀ t∈ts,(txT l t).length+2≤70000*t.size)→((ts.map (txT l)).map fun x=>x.length+2).sum≤70000*Tm.sizeL ts:=by
   intro ts
   induction ts with
   | nil=>intro _;simp
   | cons t ts iht=>
    intro h
    have e:Tm.sizeL (t::ts)=t.size+Tm.sizeL ts:=rfl
    have q1:=h t (by simp)
    have q2:=iht fun x hx=>h x (by simp [hx])
    simp only [qah,List.sum_cons,e,Nat.mul_add] at *
    omega
  have k:=key ys fun t ht=>ih t ht (ha t ht)
  have j:=kx4 (ys.map (txT l))
  have ho:=hr.op
  rw [kom]
  simp only [ql,qq,qab,kuj]
  omega
 ·rename_i hk
  have:=k4b hr fun h=>(hw.val hm h hk).2
  omega
theorem kajt {l:La} (hw:OkL l) {r:Ru} (hr:r∈l.rules) (h3:r.kind≠3):kh9 r=some (mkB (knr r)):=by
 have h:=hw.wr r hr
 unfold kh9 knr
 by_cases h1:r.kind=1
 ·have hlen:=kr8 (n:=r.input) (by have:=h.inp.1;omega) (by have:=h.inp.2;omega)
  simp only [h1,qa3,qd,if_true,h.inp.itoa,qa]
  rw [show ((⟨#[105,110]⟩:BA))=mkB [105,110] from rfl,kew (by simp;omega)]
  rfl
 ·obtain ⟨h2,_⟩:=hw.val hr h1 h3
  rw [show (r.kind == 1)=false from beq_false_of_ne h1,qb,if_neg h1,(h.const h2).2.1]
  rfl
theorem kakx {l:La} (hw:OkL l) {r:Ru} (hr:r∈l.rules) (h3:r.kind≠3):(bif (r.kind == 1) then (Option.bind (kh7 (r.input)) fun v2=>(Option.bind (cat (⟨#[105,110]⟩:BA) v2) fun v3=>(some v3))) else (Option.bind (kgv (r.const)) fun v4=>(some v4.1)))=some (mkB (knr r)):=by
 have h:=hw.wr r hr
 unfold knr
 by_cases h1:r.kind=1
 ·have hlen:=kr8 (n:=r.input) (by have:=h.inp.1;omega) (by have:=h.inp.2;omega)
  simp only [h1,qa3,qd,if_true,h.inp.num,qa]
  rw [show ((⟨#[105,110]⟩:BA))=mkB [105,110] from rfl,kew (by simp;omega)]
  rfl
 ·obtain ⟨h2,_⟩:=hw.val hr h1 h3
  rw [show (r.kind == 1)=false from beq_false_of_ne h1,qb,if_neg h1,(h.const h2).2.2]
  rfl
def preB (l:La) (ys:List Tm) (k:Nat):List UInt8:=if k=0 then [] else 40::kba ((ys.take k).map (txT l))
theorem kabv {l:La} {ys:List Tm} {k:Nat} (hk:k<ys.length):preB l ys (k+1)=preB l ys k++((if k=0 then [40] else [44,32])++txT l ys[k]):=by
 unfold preB
 rw [if_neg (by omega),List.take_succ_eq_append_getElem hk,List.map_append]
 by_cases h:k=0
 ·subst h;simp [kba]
 ·rw [if_neg h,if_neg h]
  have hne:(ys.take k).map (txT l)≠[]:=by
   intro e
   have:=congrArg List.length e
   simp at this
   rcases this with h' | h'
   ·exact h h'
   ·rw [h'] at hk;simp at hk
  simp only [qah,List.map_nil]
  rw [kus _ _ hne]
  simp
theorem kox {l:La} (hw:OkL l) {ys:List Tm} (ha:∀ a∈ys,OkT l a) (k:Nat):(preB l ys k).length≤70000*Tm.sizeL ys+1:=by
 have key:∀ ts:List Tm,(∀ t∈ts,(txT l t).length+2≤70000*t.size)→((ts.map (txT l)).map fun x=>x.length+2).sum≤70000*Tm.sizeL ts:=by
  intro ts
  induction ts with
  | nil=>intro _;simp
  | cons t ts iht=>
   intro h
   have e:Tm.sizeL (t::ts)=t.size+Tm.sizeL ts:=rfl
   have q1:=h t (by simp)
   have q2:=iht fun x hx=>h x (by simp [hx])
   simp only [qah,List.sum_cons,e,Nat.mul_add] at *
   omega
 unfold preB
 split
 ·simp
 ·have k1:=key (ys.take k) fun t ht=>k45 hw t (ha t (List.mem_of_mem_take ht))
  have k2:=kx4 ((ys.take k).map (txT l))
  have k3:Tm.sizeL (ys.take k)≤Tm.sizeL ys:=Tm.sizeL_take ys k
  simp only [qq]
  omega
theorem k3d {l:La} (hw:OkL l):∀ (n:Nat) (t:Tm),t.size≤n→t.size≤1000→OkT l t→∀ acc:List UInt8,acc.length+70000*t.size≤1000000000→kgl n (iB acc) l t=some (iB (acc++txT l t))
 | 0,t,h,_,_,_,_=>by have:=Tm.size_pos t;omega
 | n+1, .mk i ys,hn,hs,⟨h0,h1,hl,ha⟩,acc,hacc=>by
  have hsz:(Tm.mk i ys).size=Tm.sizeL ys+1:=rfl
  obtain ⟨e1,hm⟩:=khj h0 h1
  have hr:=hw.wr _ hm
  have ho:=hr.op
  show kh2 (kgl n) (iB acc) l (.mk i ys)=_
  unfold kh2 txT
  rw [show (Tm.mk i ys).rule=i from rfl,e1]
  simp only [qa]
  by_cases h3:(kad l i).kind=3
  ·rw [if_pos h3,show ((kad l i).kind != 3)=false by rw [h3];rfl,qb]
   rw [kl5 (l:=bsOf (kad l i).op) (koj _).symm (by omega) (by rw [kuj];omega),qa]
   have hal:ys.length≤Tm.sizeL ys:=kgd ys
   have hne:=hl h3
   have hob:=kuj (kad l i).op
   have main:Ev (kaa (khd l (.mk i ys) (kgl n)) fuel (0,iB (acc++bsOf (kad l i).op))) (·=iB (acc++bsOf (kad l i).op++preB l ys ys.length)):=by
    refine ki5 ys.length (fun k s=>s=((k:Int),iB (acc++bsOf (kad l i).op++preB l ys k))) (by omega) (by simp [preB]) (fun k s hk hI=>?_) fun s hI=>?_
    ·subst hI
     have hp:=kox hw ha k
     have hak:=ha _ (qn hk)
     have hsk:=Tm.sizeL_mem (qn hk)
     have htl:=k45 hw _ hak
     have hsl:=kmy ys (k+1) (by omega)
     refine km0 (s:=(((k+1:Nat):Int),iB (acc++bsOf (kad l i).op++preB l ys (k+1)))) ?_ rfl
     have hpl:(acc++bsOf (kad l i).op++preB l ys k).length+2+70000*(ys[k]).size≤1000000000:=by
      have hpk:(preB l ys k).length+70000*(ys[k]).size≤70000*Tm.sizeL ys+1:=by
       have e:Tm.sizeL (ys.take (k+1))=Tm.sizeL (ys.take k)+(ys[k]).size:=sizeL_take hk
       have p2:=kox hw (ys:=ys.take k) (fun a h=>ha a (List.mem_of_mem_take h)) k
       have e2:preB l (ys.take k) k=preB l ys k:=by unfold preB;rw [List.take_take,Nat.min_self]
       rw [e2] at p2
       omega
      simp only [ql]
      omega
     have sep:idx ([(⟨#[40]⟩:BA),(⟨#[44,32]⟩:BA)]:List BA) (imin (k:Int) 1)=some (mkB (if k=0 then [40] else [44,32])):=by
      by_cases hk0:k=0
      ·subst hk0;rfl
      ·rw [if_neg hk0,show imin (k:Int) 1=1 by unfold imin;split <;> omega];rfl
     have hlen2:(if k=0 then ([40]:List UInt8) else [44,32]).length≤2:=by split <;> simp
     have w1:=kl5 (acc:=acc++bsOf (kad l i).op++preB l ys k) (l:=if k=0 then [40] else [44,32]) (s:=mkB (if k=0 then [40] else [44,32])) rfl (by omega) (by omega)
     have w2:=k3d hw n ys[k] (by omega) (by omega) hak (acc++bsOf (kad l i).op++preB l ys k++(if k=0 then [40] else [44,32])) (by rw [ql];omega)
     simp only [khd,show (Tm.mk i ys).args=ys from rfl,kbb hk,qd,kak,List.getElem?_eq_getElem hk,qa,sep,w1,w2,w64s k (by omega)]
     rw [kabv hk]
     simp only [qaa]
    ·subst hI
     refine klu (b:=iB (acc++bsOf (kad l i).op++preB l ys ys.length)) ?_ rfl
     simp only [khd,show (Tm.mk i ys).args=ys from rfl,kez,qb]
   have hpl:=kox hw ha ys.length
   rw [main.eq,qa,kp7 (acc:=acc++bsOf (kad l i).op++preB l ys ys.length) (c:=41) (n:=41) rfl (by simp only [ql];omega),qa]
   have hpre:preB l ys ys.length=40::kba (txTs l ys):=by
    unfold preB
    rw [if_neg (by intro e;exact hne (qz e)),List.take_length,kom]
   rw [hpre]
   simp
  ·rw [if_neg h3,show ((kad l i).kind != 3)=true by rw [qas];exact h3,qd,kajt hw hm h3]
   have:=k4b hr fun h=>(hw.val hm h h3).2
   rw [qa,kl5 (l:=knr (kad l i)) rfl (by omega) (by omega)]
   rfl
theorem k7g {l:La} (hw:OkL l):∀ (n:Nat) (t:Tm),t.size≤n→t.size≤1000→OkT l t→khc n l t=some (mkB (txT l t))
 | 0,t,h,_,_=>by have:=Tm.size_pos t;omega
 | n+1, .mk i ys,hn,hs,⟨h0,h1,hl,ha⟩=>by
  have hsz:(Tm.mk i ys).size=Tm.sizeL ys+1:=rfl
  obtain ⟨e1,hm⟩:=khj h0 h1
  have hr:=hw.wr _ hm
  have ho:=hr.op
  show kkm (khc n) l (.mk i ys)=_
  unfold kkm txT
  rw [show (Tm.mk i ys).rule=i from rfl,e1]
  simp only [qa]
  by_cases h3:(kad l i).kind=3
  ·have hob:=kuj (kad l i).op
   rw [if_pos h3,show ((kad l i).kind == 1)=false by rw [h3];rfl,show ((kad l i).kind == 2)=false by rw [h3];rfl,qb,qb]
   have c1:cat (kad l i).op (⟨#[40]⟩:BA)=some (mkB (bsOf (kad l i).op++[40])):=by
    rw [show (⟨#[40]⟩:BA)=mkB [40] from rfl]
    conv=>lhs;rw [← koj (kad l i).op]
    exact kew (by rw [hob];simp;omega)
   rw [c1,qa]
   have hal:ys.length≤Tm.sizeL ys:=kgd ys
   have hne:=hl h3
   have main:Ev (kaa (khx l (.mk i ys) (khc n)) fuel (mkB (bsOf (kad l i).op++[40]),0)) (·=mkB (bsOf (kad l i).op++(40::kba ((ys.take ys.length).map (txT l))))):=by
    refine ki5 ys.length (fun k s=>s=(mkB (bsOf (kad l i).op++(40::kba ((ys.take k).map (txT l)))),(k:Int))) (by omega) (by simp [kba]) (fun k s hk hI=>?_) fun s hI=>?_
    ·subst hI
     have hak:=ha _ (qn hk)
     have hsk:=Tm.sizeL_mem (qn hk)
     have htl:=k45 hw _ hak
     have hp:=kox hw ha (k+1)
     have hp0:=kox hw ha k
     have e0:(kba ((ys.take k).map (txT l))).length≤70000*Tm.sizeL ys+1:=by
      unfold preB at hp0
      by_cases hk0:k=0
      ·subst hk0;simp [kba]
      ·rw [if_neg hk0] at hp0;simp only [qq] at hp0;omega
     refine km0 (s:=(mkB (bsOf (kad l i).op++(40::kba ((ys.take (k+1)).map (txT l)))),((k+1:Nat):Int))) ?_ rfl
     have w2:=k7g hw n ys[k] (by omega) (by omega) hak
     rw [List.take_succ_eq_append_getElem hk,List.map_append]
     simp only [khx,show (Tm.mk i ys).args=ys from rfl,kbb hk,qd,kak,List.getElem?_eq_getElem hk,qa,w2,w64s k (by omega),qah,List.map_nil]
     by_cases hk0:k=0
     ·subst hk0
      rw [show decide ((0:Int)<((0:Nat):Int))=false from rfl,qb,qa,kew (by simp only [ql,qq];omega)]
      simp [kba]
     ·have hnk:(ys.take k).map (txT l)≠[]:=by
       intro e
       have:=congrArg List.length e
       simp at this
       rcases this with h' | h'
       ·exact hk0 h'
       ·rw [h'] at hk;simp at hk
      rw [show decide ((0:Int)<(k:Int))=true from qe (by omega),qd,show (⟨#[44,32]⟩:BA)=mkB [44,32] from rfl,kew (by simp only [ql,qq,qab];omega),qa,qa,
       kew (by simp only [ql,qq,qab];omega),qa,kus _ _ hnk]
      simp
    ·subst hI
     refine klu (b:=mkB (bsOf (kad l i).op++(40::kba ((ys.take ys.length).map (txT l))))) ?_ rfl
     simp only [khx,show (Tm.mk i ys).args=ys from rfl,kez,qb]
   have hpl:=kox hw ha ys.length
   have hpre:(kba ((ys.take ys.length).map (txT l))).length≤70000*Tm.sizeL ys+1:=by
    unfold preB at hpl
    rw [if_neg (by intro e;exact hne (qz e))] at hpl
    simp only [qq] at hpl;omega
   rw [main.eq,qa,show (⟨#[41]⟩:BA)=mkB [41] from rfl,kew (by simp only [ql,qq,qab];omega),qa,List.take_length,kom]
   simp
  ·rw [if_neg h3]
   have hk:=kakx hw hm h3
   by_cases hk1:(kad l i).kind=1
   ·rw [show ((kad l i).kind == 1)=true by rw [hk1];rfl,qd] at hk ⊢
    exact hk
   ·obtain ⟨h2,_⟩:=hw.val hm hk1 h3
    rw [show ((kad l i).kind == 1)=false from beq_false_of_ne hk1,qb] at hk ⊢
    rw [show ((kad l i).kind == 2)=true by rw [h2];rfl,qd]
    exact hk
end Go.Proofs.YtaimpcnpifoidaaGreatDoor
