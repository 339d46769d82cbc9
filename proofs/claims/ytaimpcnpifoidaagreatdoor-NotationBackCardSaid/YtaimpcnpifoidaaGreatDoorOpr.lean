import Derived.Test.YtaimpcnpifoidaaGreatDoorOpo
import Derived.Laws.CopyRow
import Derived.Laws.IdiomCopy
set_option linter.unusedVariables false
set_option linter.unusedSimpArgs false
namespace Go.Proofs.YtaimpcnpifoidaaGreatDoor
open Go Go.RowKit
section
variable {P:Program} {F S0:Nat→Prop} {N0:Nat} {w w':World} {S S':Nat→Prop} {ψ:Env} {K:Nat→Prop} {T:List (TypeId×TD)} {o:Oper} {a:Act} {st:St} {t:TypeId} {d:TD} {id:Nat}
end
end Go.Proofs.YtaimpcnpifoidaaGreatDoor
set_option linter.unusedVariables false
set_option linter.unusedSimpArgs false
namespace Go.Proofs.YtaimpcnpifoidaaGreatDoor
open Go Go.RowKit
def tabF (rows:List (List Value)):FV := .lst 1 rows.length (rows.map fun r => .lst 1 r.length (r.map .atom))
def kagp:FV→Bool
 | .atom _=>true
 | .tup vs=>vs.all fun x=>match x with
  | .atom _=>true
  | _=>false
 | _=>false
section
variable {P:Program} {F S0:Nat→Prop} {N0:Nat} {w w':World} {S S':Nat→Prop} {ψ ψ':Env} {K:Nat→Prop} {T:List (TypeId×TD)} {o:Oper} {a:Act} {st:St} {t:TypeId} {d:TD} {id:Nat} {ids:List Nat} {heap:List (Nat×AObj)}
end
end Go.Proofs.YtaimpcnpifoidaaGreatDoor
set_option linter.unusedVariables false
set_option linter.unusedSimpArgs false
namespace Go.Proofs.YtaimpcnpifoidaaGreatDoor
open Go Go.RowKit
section
variable {P:Program} {F S0:Nat→Prop} {N0:Nat} {w w':World} {S S':Nat→Prop} {ψ ψ':Env} {K:Nat→Prop} {T:List (TypeId×TD)} {o:Oper} {a:Act} {st:St} {t:TypeId} {d:TD} {id:Nat} {ids:List Nat} {heap:List (Nat×AObj)}
end
end Go.Proofs.YtaimpcnpifoidaaGreatDoor
set_option linter.unusedVariables false
set_option linter.unusedSimpArgs false
namespace Go.Proofs.YtaimpcnpifoidaaGreatDoor
open Go Go.RowKit
section
variable {P:Program} {F S0:Nat→Prop} {N0:Nat} {w w':World} {S S':Nat→Prop} {ψ ψ':Env} {K:Nat→Prop} {T:List (TypeId×TD)} {o:Oper} {a:Act} {st:St} {t:TypeId} {d:TD} {id:Nat} {ids:List Nat} {heap:List (Nat×AObj)}
theorem k4m (r:List Value) (h:∀ u∈r,u.oneCell'=true):ElR 1 (r.map .atom):=fun x hx=>by
 obtain ⟨u,hu,rfl⟩:=qao.1 hx
 exact ⟨rfl,fun y hy=>by simp [FV.cells] at hy;subst hy;exact h u hu⟩
theorem k19 (r:List Value) (h:∀ u∈r,u.oneCell'=true):RowR S w 1 (r.map .atom) r:=fun i x j v y hx hv hy=>by
 rw [List.getElem?_map,qj] at hx
 obtain ⟨u,hu,rfl⟩:=hx
 have hj:j=0:=by
  have:=(List.getElem?_eq_some_iff.1 hy).1
  simp [FV.cells] at this
  exact this
 subst hj
 simp [FV.cells] at hy
 subst hy
 rw [Nat.mul_one,Nat.add_zero,hu] at hv
 cases hv
 exact .atom (h _ (qt hu))
theorem kaer {g:Nat} {ov:Value} {eo ei:TypeId} {rows:List (List Value)} (h:ObR ψ K S w id (.tab g ov eo ei rows)):RF (fun b=>S b∨Blk (ψ.val id) b) w ov (tabF rows):=by
 obtain ⟨hg,vs,hval,hvl,hown,hin,hdis⟩:=h
 have hB:∀ u b,u∈ov::vs→kb1 u=some b→Blk (ψ.val id) b:=fun u b hu hb=>by
  rw [hval];exact .inr ⟨u,by simpa [kmx] using hu,hb⟩
 have hlen:rows.length=(rows.map fun r:List Value=>FV.lst 1 r.length (r.map .atom)).length:=by simp
 have hinner:∀ (j:Nat) (v:Value) (r:List Value),vs[j]?=some v→rows[j]?=some r→RF (fun b=>S b∨Blk (ψ.val id) b) w v (.lst 1 r.length (r.map .atom)):=fun j v r hv hr=>by
  obtain ⟨k1,k2⟩:=hin j v r hv hr
  have:=kw5 (S:=S) (xs:=r.map .atom) (by omega) (by simpa using k1) (k4m r k2) (k19 r k2)
  rw [qan] at this
  exact this.mono fun b hb=>hb.imp _root_.id fun h=>hB v b (qk _ (qt hv)) h
 have hel:ElR 1 (rows.map fun r:List Value=>FV.lst 1 r.length (r.map .atom)):=fun x hx=>by
  obtain ⟨r,hr,rfl⟩:=qao.1 hx
  exact ⟨rfl,fun y hy=>by simp [FV.cells] at hy;subst hy;rfl⟩
 have:=kw5 (S:=fun b=>S b∨Blk (ψ.val id) b) (xs:=rows.map fun r:List Value=>FV.lst 1 r.length (r.map .atom)) (by omega) (by rw [← hlen];exact hown) hel (fun i x j v y hx hv hy=>by
  rw [List.getElem?_map,qj] at hx
  obtain ⟨r,hr,rfl⟩:=hx
  have hj:j=0:=by
   have:=(List.getElem?_eq_some_iff.1 hy).1
   simp [FV.cells] at this
   exact this
  subst hj
  simp [FV.cells] at hy
  subst hy
  rw [Nat.mul_one,Nat.add_zero] at hv
  exact hinner i v r hv hr)
 rw [← hlen] at this
 exact this.mono fun b hb=>hb.elim _root_.id fun h => .inr (hB ov b (qo ..) h)
inductive LendI where
 | row (t id n:Nat) (e:TypeId) (size:Nat) (xs:List FV)
 | tab (t id g:Nat) (ov:Value) (eo ei:TypeId) (rows:List (List Value)) (x:FV)
 | inn (t id g:Nat) (ov:Value) (eo ei:TypeId) (rows:List (List Value)) (i:Nat) (x:FV)
def LendI.ok (st:St):LendI→Prop
 | .row t id n e size xs=>st.get t = .row id n∧kab st.heap id=some (.frow e size xs)∧n=xs.length
 | .tab t id g ov eo ei rows x=>st.get t = .fz (.atom ov)∧kab st.heap id=some (.tab g ov eo ei rows)∧x=tabF rows
 | .inn t id g ov eo ei rows i x=>st.get t = .irow id g (i+1)∧kab st.heap id=some (.tab g ov eo ei rows)∧∃ r,rows[i]?=some r∧x = .lst 1 r.length (r.map .atom)
def LendI.slot:LendI→Nat×AV
 | .row t _ n _ size xs=>(t, .fz (.lst size n xs))
 | .tab t _ _ _ _ _ _ x=>(t, .fz x)
 | .inn t _ _ _ _ _ _ _ x=>(t, .fz x)
def kag0 (ls:List LendI) (st:St):St:={ st with tmps:=ls.map LendI.slot++st.tmps }
theorem kac4 {e:TypeId} {size:Nat} {xs:List FV} (h:ObR ψ K S w id (.frow e size xs)):RF (fun b=>S b∨Blk (ψ.val id) b) w (ψ.val id) (.lst size xs.length xs):=by
 obtain ⟨h0,hsz,cs,hown,hel,hr⟩:=h
 exact (kw5 hsz hown hel hr).mono fun b hb=>hb.imp _root_.id .of
theorem k5n {SB:Nat→Prop}:∀ (ls:List LendI),(∀ l∈ls,l.ok st)→(∀ t,RV ψ (·∈st.ids) S w (a.tmps.getD t undef) (st.get t))→(∀ id ob,kab st.heap id=some ob→ObR ψ (·∈st.ids) S w id ob)→(∀ id ob,kab st.heap id=some ob→∀ b,(S b∨Blk (ψ.val id) b)→SB b)→(∀ b,S b→SB b) →
  ∀ t,RV ψ (·∈st.ids) SB w (a.tmps.getD t undef) (look .any (ls.map LendI.slot++st.tmps) t)
 | [],_,ht,_,_,hS,t=>(ht t).mono (fun _ h=>h) hS
 | l::ls,hl,ht,hO,hsub,hS,t=>by
  have hl1:=hl l (qo ..)
  have hl2:=k5n ls (fun k hk=>hl k (qk _ hk)) ht hO hsub hS t
  cases l with
  | row t' id n e size xs=>
   obtain ⟨q1,q2,rfl⟩:=hl1
   show RV ψ (·∈st.ids) SB w _ (look .any ((t',AV.fz (.lst size xs.length xs))::(ls.map LendI.slot++st.tmps)) t)
   rw [kdg]
   split
   ·rename_i he
    subst he
    have hv:=ht t'
    rw [q1] at hv
    have hob:=hO id _ q2
    refine .fz ?_
    generalize a.tmps.getD t' undef=u at hv
    cases hv with
    | row hK hn' h1 hv=>
     rw [hv hob.1.symm]
     exact (kac4 hob).mono (hsub id _ q2)
   ·exact hl2
  | tab t' id g ov eo ei rows x=>
   obtain ⟨q1,q2,rfl⟩:=hl1
   show RV ψ (·∈st.ids) SB w _ (look .any ((t',AV.fz (tabF rows))::(ls.map LendI.slot++st.tmps)) t)
   rw [kdg]
   split
   ·rename_i he
    subst he
    have hv:=ht t'
    rw [q1] at hv
    rw [hv.atom]
    exact .fz ((kaer (hO id _ q2)).mono (hsub id _ q2))
   ·exact hl2
  | inn t' id g ov eo ei rows i x=>
   obtain ⟨q1,q2,r,q3,rfl⟩:=hl1
   show RV ψ (·∈st.ids) SB w _ (look .any ((t',AV.fz (.lst 1 r.length (r.map .atom)))::(ls.map LendI.slot++st.tmps)) t)
   rw [kdg]
   split
   ·rename_i he
    subst he
    have hv:=ht t'
    rw [q1] at hv
    obtain ⟨hg,vs,hval,hvl,hown,hin,hdis⟩:=hO id _ q2
    have hlt:i<vs.length:=by rw [hvl];exact (List.getElem?_eq_some_iff.1 q3).1
    obtain ⟨k1,k2⟩:=hin i vs[i] r (List.getElem?_eq_getElem hlt) q3
    refine .fz ?_
    have hd:=kw5 (S:=S) (xs:=r.map .atom) (by omega) (by simpa using k1) (k4m r k2) (k19 r k2)
    rw [qan] at hd
    have hd:=hd.mono fun b hb=>hsub id _ q2 b (hb.imp _root_.id fun hb=>by rw [hval];exact .inr ⟨vs[i],by simp only [kmx];exact qk _ (qn hlt),hb⟩)
    generalize a.tmps.getD t' undef=u at hv
    cases hv with
    | irow hK hn' h1 hv=>
     have:=hv hg.symm
     rw [hval] at this
     simp only [kmx,List.getElem?_cons_succ] at this
     rw [List.getElem?_eq_getElem hlt] at this
     cases this
     exact hd
   ·exact hl2
theorem kaky (ls:List LendI) {c:FV} (hl:∀ l∈ls,l.ok st) (hn:NStep P o (kag0 ls st) (.fz c)) (hc:kagp c=true):NStep P o st (.fz c):=by
 intro ψ S a w ht hO
 let SB:Nat→Prop:=fun b=>S b∨∃ id ob,kab st.heap id=some ob∧Blk (ψ.val id) b
 have hsub:∀ id ob,kab st.heap id=some ob→∀ b,(S b∨Blk (ψ.val id) b)→SB b:=fun id ob h b hb=>hb.imp _root_.id fun hb=>⟨id,ob,h,hb⟩
 refine kud ?_ (hn ψ SB a w (fun t=>?_) fun id ob ho=>?_)
 ·rintro v w' ⟨hg,hv⟩
  refine ⟨hg, .fz ?_⟩
  have hv:=hv.inv
  cases c with
  | atom u=>cases hv with | atom h=>exact .atom h
  | tup vs=>
   cases hv with
   | tup h hr=>
    refine .tup h fun i v x hv hx=>?_
    have hx':=qm.1 hc x (qt hx)
    have:=hr i v x hv hx
    cases x with
    | atom u=>cases this with | atom h=>exact .atom h
    | _=>cases hx'
  | _=>cases hc
 ·exact k5n ls hl (fun t=>ht t) hO hsub (fun b h => .inl h) t
 ·exact (hO id ob ho).keep Ext.refl (fun _ h=>h) (fun b hb => .inl hb) (fun _ _ _=>rfl) ⟨rfl,rfl⟩ fun _ _=>rfl
theorem k05 {α:Type} {enc:α→FV} {m:List (BA×α)} {s:BA} {z:α} {x y:Operand} {kt et:TypeId} {kd:TD} (zv:Value) (ho:o.op = .lookup t x y true) (hT:TOk P T) (hd:ka3 T t=some d) (hk:d.kind = .map kt et) (hkd:ka3 T kt=some kd) (hks:kd.kind = .str) (inf:TypeInfo) (hi1:P.info? et=some inf) (hi2:inf.zero=some zv) (hze:enc z = .atom zv) (hzo:zv.oneCell'=true)
  (hx:st.eval x = .mp id:=by kernel_rfl) (hob:kab st.heap id=some (.smap (m.map fun p=>(p.1,enc p.2))):=by kernel_rfl) (hy:st.eval y = .fz (.atom (.string s)):=by kernel_rfl):NStep P o st (.fz (.tup [enc (mget m s z), .atom (.bool (mhas m s))])):=by
 intro ψ S a w ht hO
 have hd:=hT.get hd
 have hkd:=hT.get hkd
 have hv:=Sim.eval_tmps ht x
 rw [hx] at hv
 have hb':=hO id _ hob
 have hpv:=k3r hb' hv
 obtain ⟨h0,b,es,clock,hval,hb,hsz,hr⟩:=hb'
 have hya:=Sim.eval_tmps ht y
 rw [hy] at hya
 have hya:=hya.atom
 have hz1:(zeroValue et).run P w = .ok zv w:=by simp [zeroValue,typeInfo,hi1,hi2]
 have hck:=MapKept.run_checkKey (w:=w) (hkd.str hks) (k := .string s) trivial es.isEmpty 9999
 have two:∀ {v:Value} {x:FV} {ok:Bool},RF (fun b=>S b∨w.heap.size≤b) w v x→RF (fun b=>S b∨w.heap.size≤b) w (.tuple #[v, .bool ok]) (.tup [x, .atom (.bool ok)]):=fun {v x ok} h => .tup rfl fun i u y hu hy=>by
  match i with
  | 0=>simp at hu hy;subst hu hy;exact h
  | 1=>simp at hu hy;subst hu hy;exact .atom rfl
  | i+2=>simp at hu
 rcases ko1 s (R:=fun v x=>RF S w v x) es.toList (m.map fun p=>(p.1,enc p.2)) 0 (by simpa using hsz) (fun j e p he hp=>hr j e p (by simpa using he) hp) with ⟨f1,f2⟩ | ⟨j,v,x',f1,f2,f3⟩
 ·have hf:=MapKept.run_findKey (w:=w) (hkd.str hks) f1
  have hh:mhas m s=false:=by rw [← k3l enc];unfold mhas;rw [f2];rfl
  refine kam (w':=w) (v := .tuple #[zv, .bool false]) ?_ ⟨kaj _, .fz ?_⟩
  ·simp [execOp,ho,hya,hpv,hval,Instr.lookup,run_underlying (hd.mp hk),MapKept.run_getObj_map hb,hck,hf,hz1]
  ·rw [hh]
   refine two ?_
   rw [← ktn enc]
   unfold mget
   rw [f2]
   simp only
   rw [hze]
   exact .atom hzo
 ·have hf:=MapKept.run_findKey (w:=w) (hkd.str hks) f1
  have hh:mhas m s=true:=by rw [← k3l enc];unfold mhas;rw [f2];rfl
  refine kam (w':=w) (v := .tuple #[v, .bool true]) ?_ ⟨kaj _, .fz ?_⟩
  ·simp [execOp,ho,hya,hpv,hval,Instr.lookup,run_underlying (hd.mp hk),MapKept.run_getObj_map hb,hck,hf]
  ·rw [hh]
   refine two ?_
   rw [← ktn enc]
   unfold mget
   rw [f2]
   exact f3.mono fun _ h => .inl h
theorem kaew {t id n:Nat} {e:TypeId} {size:Nat} {xs:List FV} (h1:st.get t = .row id n) (h2:kab st.heap id=some (.frow e size xs)) (h3:n=xs.length):LendI.ok st (.row t id n e size xs):=⟨h1,h2,h3⟩
theorem kaf0:∀ l∈([]:List LendI),l.ok st:=fun l h=>by cases h
theorem kacl {l:LendI} {ls:List LendI} (h:l.ok st) (hs:∀ k∈ls,k.ok st):∀ k∈l::ls,k.ok st:=fun k hk=>by
 rcases q8.1 hk with rfl | hk
 ·exact h
 ·exact hs k hk
end
end Go.Proofs.YtaimpcnpifoidaaGreatDoor
