import Derived.Test.YtaimpcnpifoidaaGreatDoorFb
import Derived.Test.YtaimpcnpifoidaaGreatDoorJo
set_option linter.unusedVariables false
set_option linter.unusedSimpArgs false
namespace Go.Proofs.YtaimpcnpifoidaaGreatDoor
open Go Go.RowKit
def kra (xs:List BA) (sep:BA):BA:=⟨(Lib.join (xs.map (·.data.toList)) sep.data.toList).toArray⟩
def strings_Join (xs:List BA) (sep:BA):Option BA:=if xs.length≤140737488355328∧(kra xs sep).size≤140737488355328 then some (kra xs sep) else none
theorem kqf:∀ (x0:List BA) (x1:BA) r,strings_Join x0 x1=some r→kad Tryz.prog kadb [(eL 1 eS) x0,eS x1] (eS r):=by
 intro xs sep r h
 unfold strings_Join at h
 split at h
 ·rename_i hb
  obtain ⟨hb1,hb2⟩:=hb
  injection h with h
  subst h
  refine ⟨kaeh,fun S w vs hn hr=>?_⟩
  obtain ⟨l⟩:=vs
  match l,hn with
  | [u,v],_=>
   have h0:=hr 0 u _ rfl rfl
   have h1:=(hr 1 v _ rfl rfl).atom_eq
   subst h1
   have hsz:(kra xs sep).size=(Lib.join (xs.map (·.data.toList)) sep.data.toList).length:=by simp [kra,ByteArray.size]
   unfold eL at h0
   cases h0 with
   | @lst A cap _ _ _ css e1 hc hm hs ha hl hr0=>
    cases xs with
    | nil=>
     refine (kq7 A cap sep w).mono ?_
     rintro e w' ⟨rfl,rfl⟩
     refine ⟨_,rfl,?_,kah _⟩
     exact .atom rfl
    | cons x xs=>
     obtain ⟨b,o,hA,hS,hat⟩:=ha 0 (eS x) rfl
     subst hA
     have hcell:∀ (j:Nat) y,(x::xs)[j]?=some y→w.cell? ⟨b,o+j,none⟩=some (.string y):=by
      intro j y hy
      have hy':((x::xs).map eS)[j]?=some (eS y):=by rw [List.getElem?_map,hy];rfl
      obtain ⟨b',o',q1,q2,q3⟩:=ha j (eS y) hy'
      injection q1 with q1
      injection q1 with q1 q4
      subst q1 q4
      obtain ⟨k1,k2,k3⟩:=hl j (eS y) hy'
      match hcs:css j,k1 with
      | [z],_=>
       have hz:=(hr0 j (eS y) 0 z (eS y) hy' (by rw [hcs];rfl) rfl).atom_eq
       have:=q3 0 z (by rw [hcs];rfl)
       rw [hz] at this
       simpa using this
     refine (kv5 b o cap (x::xs) sep w hcell (ku3 (hcell 0 x rfl)) hb1 hc (by rw [← hsz];exact hb2)).mono ?_
     rintro e w' ⟨rfl,hw⟩
     exact ⟨_,rfl, .atom rfl,⟨hw.os,hw.tape,hw.output,hw.size,hw.block⟩⟩
 ·cases h
def cutB (s sep:BA):BA×BA×Bool:=(⟨(Lib.cut s.data.toList sep.data.toList).1.toArray⟩,⟨(Lib.cut s.data.toList sep.data.toList).2.1.toArray⟩,(Lib.cut s.data.toList sep.data.toList).2.2)
def ku1 (s sep:BA):Option (BA×BA×Bool):=if s.size<4294967281 then some (cutB s sep) else none
def kpc (s sep:BA):List BA:=Lib.splitB sep 0 (Lib.countB s sep) s
def km5 (s sep:BA):Option (List BA):=if s.size<4294967281∧1≤sep.size∧(kpc s sep).length=Lib.countB s sep+1∧Lib.countB s sep+1≤9223372036854775807 then some (kpc s sep) else none
section
variable {F S0:Nat→Prop} {w:World} {S:Nat→Prop} {ψ:Env} {o:Oper} {st:St} {id:Nat} {ts:Array TypeId} {X Y:Operand} {s sep:BA} {m:Nat} {gs:List (Nat×Array Value)}
theorem k4d (hO:∀ id o,kab st.heap id=some o→ObR ψ (·∈st.ids) S w id o) (hob:kab st.heap id=some (.glb gs)) (hm:gs[m]?=some (maxG,#[])):∃ n,w.cell? ⟨maxG,0,none⟩=some (.int .i64 n):=by
 obtain ⟨_,_,_,h⟩:=hO id _ hob
 obtain ⟨_,hh⟩:=h (maxG,#[]) (qr hm)
 rcases hh with ⟨h0,_⟩ | ⟨_,n,e,d,hh⟩
 ·cases h0
 ·exact ⟨n,by simp only [World.cell?,hh];rfl⟩
theorem n_cut {v : BA × BA × Bool} (h : ku1 s sep = some v) (hf : ∃ fn, Tryz.prog.funcs[cutF]? = some fn ∧ fn.body.isNone = false ∧ (fn.name == "runtime.NumGoroutine") = false)
  (ho:o.op = .call { callee := .value (.func cutF),args:=#[X,Y],argTypes:=ts }) (hx:st.eval X = .fz (.atom (.string s))) (hy:st.eval Y = .fz (.atom (.string sep))) (hob:kab st.heap id=some (.glb gs)) (hm:gs[m]?=some (maxG,#[])):
  NStep Tryz.prog o st (.fz (.tup [eS v.1,eS v.2.1,eB v.2.2])):=by
 unfold ku1 at h
 split at h
 ·rename_i hs
  injection h with h
  subst h
  intro ψ S a w ht hO
  have hxa:=Sim.eval_tmps ht X
  rw [hx] at hxa
  have hya:=Sim.eval_tmps ht Y
  rw [hy] at hya
  obtain ⟨n,hn⟩:=k4d hO hob hm
  unfold kgz
  rw [kqg ho hf]
  rw [show (#[X,Y].map a.eval)=#[.string s, .string sep] by simp [hxa.atom,hya.atom]]
  refine (kwr s sep n w hs hn).mono ?_
  rintro e w' ⟨rfl,k,rfl⟩
  refine ⟨_,rfl,⟨rfl,rfl,rfl,qt _,fun b hb=>rfl⟩, .fz (.tup rfl fun i u y hu hy=>?_)⟩
  match i with
  | 0=>simp at hu hy;subst hu hy;exact .atom rfl
  | 1=>simp at hu hy;subst hu hy;exact .atom rfl
  | 2=>simp at hu hy;subst hu hy;exact .atom rfl
  | i+3=>simp at hu
 ·cases h
theorem k32 {v : List BA} (h : km5 s sep = some v) (hf : ∃ fn, Tryz.prog.funcs[k8u]? = some fn ∧ fn.body.isNone = false ∧ (fn.name == "runtime.NumGoroutine") = false)
  (ho:o.op = .call { callee := .value (.func k8u),args:=#[X,Y],argTypes:=ts }) (hx:st.eval X = .fz (.atom (.string s))) (hy:st.eval Y = .fz (.atom (.string sep))) (hob:kab st.heap id=some (.glb gs)) (hm:gs[m]?=some (maxG,#[])):
  NStep Tryz.prog o st (.fz (eL 1 eS v)):=by
 unfold km5 at h
 split at h
 ·rename_i hs
  obtain ⟨hs,h1,hl,hmx⟩:=hs
  injection h with h
  subst h
  intro ψ S a w ht hO
  have hxa:=Sim.eval_tmps ht X
  rw [hx] at hxa
  have hya:=Sim.eval_tmps ht Y
  rw [hy] at hya
  obtain ⟨n,hn⟩:=k4d hO hob hm
  unfold kgz
  rw [kqg ho hf]
  rw [show (#[X,Y].map a.eval)=#[.string s, .string sep] by simp [hxa.atom,hya.atom]]
  refine (ku8 s sep n w hs hn h1).mono ?_
  rintro e w' ⟨rfl,rfl⟩
  refine ⟨_,rfl,kcz _ _, .fz ?_⟩
  have hk:∀ (i:Nat) (x:FV),((kpc s sep).map eS)[i]?=some x→∃ y,(kpc s sep)[i]?=some y∧x=eS y:=fun i x hx=>by
   simp only [List.getElem?_map,qj] at hx
   obtain ⟨y,h1,h2⟩:=hx
   exact ⟨y,h1,h2.symm⟩
  unfold eL
  rw [hl]
  refine .lst (fun i=>[.string ((kpc s sep).getD i ⟨#[]⟩)]) (by simp [hl]) (qt _) hmx (by decide) (fun i x hx=>?_) (fun i x hx=>?_) fun i x j v y hx hv hy=>?_
  ·obtain ⟨y,h1,rfl⟩:=hk i x hx
   refine ⟨w.heap.size,0,rfl, .inr (qt _),fun j u hu=>?_⟩
   match j with
   | 0=>
    simp only [List.getElem?_cons_zero,qh] at hu
    subst hu
    simp only [World.cell?,heap_alloc_new]
    show ((kpc s sep).map Value.string).toArray[0+i*1+0]?=_
    simp [List.getD,h1]
   | j+1=>simp at hu
  ·obtain ⟨y,h1,rfl⟩:=hk i x hx
   exact ⟨rfl,rfl,fun y hy=>by simp [eS,FV.cells] at hy;subst hy;rfl⟩
  ·obtain ⟨z,h1,rfl⟩:=hk i x hx
   match j with
   | 0=>
    simp only [List.getElem?_cons_zero,qh] at hv
    simp only [eS,FV.cells,List.getElem?_cons_zero,qh] at hy
    subst hv hy
    simp only [List.getD,h1,qao]
    exact .atom rfl
   | j+1=>simp at hv
 ·cases h
end
end Go.Proofs.YtaimpcnpifoidaaGreatDoor
