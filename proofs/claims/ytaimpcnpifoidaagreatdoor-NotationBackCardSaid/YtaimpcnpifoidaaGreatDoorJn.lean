import Derived.Test.YtaimpcnpifoidaaGreatDoorSh
import Derived.Shelf.LaysM
import Derived.Shelf.Strings.OnBuilder
import Derived.Shelf.Strings.Cut
import Derived.Shelf.Strings.Split
import Derived.Test.YtaimpcnpifoidaaGreatDoorProg
import Derived.Test.YtaimpcnpifoidaaGreatDoorFb
set_option linter.unusedVariables false
set_option linter.unusedSimpArgs false
namespace Go.Proofs.YtaimpcnpifoidaaGreatDoor
open Go Go.Proofs
open Go.Shelf
def krz:Go.Shelf.Ren:=⟨fun | 156=>43 | 165=>82 | 166=>42 | 169=>29 | 240=>81 | 241=>122 | 276=>121 | 277=>150 | n=>n,fun | 31=>84 | 9=>9 | 3=>3 | 4=>4 | 0=>0 | 20=>20 | 72=>58 | 76=>87 | 70=>55 | 37=>56 | 75=>86 | 127=>115 | 164=>171 | 5=>5 | 80=>60 | n=>n,fun | n=>n⟩
theorem kxp:Go.Proofs.Lays.n156 Tryz.prog krz:={
 mixed:=by kernel_rfl
 f156:=Tryz.func43.trans (congrArg some (by kernel_rfl))
 f165:=Tryz.func82.trans (congrArg some (by kernel_rfl))
 f166:=Tryz.func42.trans (congrArg some (by kernel_rfl))
 f169:=Tryz.func29.trans (congrArg some (by kernel_rfl))
 f240:=Tryz.func81.trans (congrArg some (by kernel_rfl))
 f241:=Tryz.func122.trans (congrArg some (by kernel_rfl))
 f276:=Tryz.func121.trans (congrArg some (by kernel_rfl))
 f277:=Tryz.func150.trans (congrArg some (by kernel_rfl))
 t0:=Tryz.underlying0
 a0:=Tryz.isAgg0
 z0:=Tryz.sizeOf0
 v0:=Tryz.zeroValue0
 t3:=Tryz.underlying3
 a3:=Tryz.isAgg3
 z3:=Tryz.sizeOf3
 v3:=Tryz.zeroValue3
 t4:=Tryz.underlying4
 a4:=Tryz.isAgg4
 z4:=Tryz.sizeOf4
 v4:=Tryz.zeroValue4
 t9:=Tryz.underlying9
 a9:=Tryz.isAgg9
 z9:=Tryz.sizeOf9
 v9:=Tryz.zeroValue9
 t20:=Tryz.underlying20
 a20:=Tryz.isAgg20
 z20:=Tryz.sizeOf20
 v20:=Tryz.zeroValue20
 t31:=Tryz.underlying84
 a31:=Tryz.isAgg84
 z31:=Tryz.sizeOf84
 v31:=Tryz.zeroValue84
 t37:=Tryz.underlying56
 a37:=Tryz.isAgg56
 z37:=Tryz.sizeOf56
 v37:=Tryz.zeroValue56
 t70:=Tryz.underlying55
 a70:=Tryz.isAgg55
 z70:=Tryz.sizeOf55
 v70:=Tryz.zeroValue55
 t72:=Tryz.underlying58
 a72:=Tryz.isAgg58
 z72:=Tryz.sizeOf58
 v72:=Tryz.zeroValue58
 t75:=Tryz.underlying86
 a75:=Tryz.isAgg86
 z75:=Tryz.sizeOf86
 v75:=Tryz.zeroValue86
 t76:=Tryz.underlying87
 a76:=Tryz.isAgg87
 z76:=Tryz.sizeOf87
 v76:=Tryz.zeroValue87
 t127:=Tryz.underlying115
 a127:=Tryz.isAgg115
 z127:=Tryz.sizeOf115
 v127:=Tryz.zeroValue115
 t164:=Tryz.underlying171
 a164:=Tryz.isAgg171
 z164:=Tryz.sizeOf171
 v164:=Tryz.zeroValue171 }
theorem kna:Builder.Extra Tryz.prog krz:={
 sizeBuilder:=by kernel_rfl
 liesBuilder:=by kernel_rfl
 t5:=Tryz.underlying5
 a5:=Tryz.isAgg5
 z5:=Tryz.sizeOf5
 v5:=Tryz.zeroValue5
 infoByte:=by kernel_rfl
 cellsByte:=by kernel_rfl
 sizeByte:=by kernel_rfl
 neB5:=by decide }
open Go.RowKit in
theorem kx6 (bk o c:Nat) (xs:List BA) (sep:BA) (w:World) (hcells:∀ (j:Nat) x,xs[j]?=some x→w.cell? ⟨bk,o+j,none⟩=some (.string x)) (hbk:bk<w.heap.size) (hN:xs.length≤140737488355328) (hcap:xs.length≤c) (hlen:(Lib.join (xs.map (·.data.toList)) sep.data.toList).length≤140737488355328):
  Calls Tryz.prog 43 #[.slice (some ⟨bk,o,none⟩) xs.length c, .string sep] w fun e w'=>e = .returned (.string ⟨(Lib.join (xs.map (·.data.toList)) sep.data.toList).toArray⟩)∧Below w.heap.size w w':=Any.strings_Join kxp kna bk o c xs sep w hcells hbk hN hcap hlen
open Go.RowKit in
theorem kth (a:Option Addr) (c:Nat) (sep:BA) (w:World):
  Calls Tryz.prog 43 #[.slice a 0 c, .string sep] w fun e w'=>e = .returned (.string ⟨#[]⟩)∧w'=w:=Any.strings_Join_none kxp kna a c sep w
def kzz:Go.Shelf.Ren:=⟨fun | 145=>46 | 220=>85 | 219=>125 | 217=>153 | 225=>154 | 224=>155 | 267=>156 | 266=>179 | 314=>180 | n=>n,fun | 9=>9 | 4=>4 | 59=>98 | 3=>3 | 5=>5 | 46=>198 | 146=>225 | 51=>224 | n=>n,fun | 1=>0 | n=>n⟩
theorem k53:Go.Proofs.Lays.n145 Tryz.prog kzz:={
 mixed:=by kernel_rfl
 f145:=Tryz.func46.trans (congrArg some (by kernel_rfl))
 f217:=Tryz.func153.trans (congrArg some (by kernel_rfl))
 f219:=Tryz.func125.trans (congrArg some (by kernel_rfl))
 f220:=Tryz.func85.trans (congrArg some (by kernel_rfl))
 f224:=Tryz.func155.trans (congrArg some (by kernel_rfl))
 f225:=Tryz.func154.trans (congrArg some (by kernel_rfl))
 f266:=Tryz.func179.trans (congrArg some (by kernel_rfl))
 f267:=Tryz.func156.trans (congrArg some (by kernel_rfl))
 f314:=Tryz.func180.trans (congrArg some (by kernel_rfl))
 t3:=Tryz.underlying3
 a3:=Tryz.isAgg3
 z3:=Tryz.sizeOf3
 v3:=Tryz.zeroValue3
 t4:=Tryz.underlying4
 a4:=Tryz.isAgg4
 z4:=Tryz.sizeOf4
 v4:=Tryz.zeroValue4
 t5:=Tryz.underlying5
 a5:=Tryz.isAgg5
 z5:=Tryz.sizeOf5
 v5:=Tryz.zeroValue5
 t9:=Tryz.underlying9
 a9:=Tryz.isAgg9
 z9:=Tryz.sizeOf9
 v9:=Tryz.zeroValue9
 t46:=Tryz.underlying198
 a46:=Tryz.isAgg198
 z46:=Tryz.sizeOf198
 v46:=Tryz.zeroValue198
 t51:=Tryz.underlying224
 a51:=Tryz.isAgg224
 z51:=Tryz.sizeOf224
 v51:=Tryz.zeroValue224
 t59:=Tryz.underlying98
 a59:=Tryz.isAgg98
 z59:=Tryz.sizeOf98
 v59:=Tryz.zeroValue98
 t146:=Tryz.underlying225
 a146:=Tryz.isAgg225
 z146:=Tryz.sizeOf225
 v146:=Tryz.zeroValue225
 g1:=by kernel_rfl }
open Go.RowKit Go.Lib in
theorem ky2 (s sep:BA) (m:Int) (w:World) (hs:s.size<4294967281) (hm:w.cell? ⟨0,0,none⟩=some (.int .i64 m)):
  Calls Tryz.prog 46 #[.string s, .string sep] w fun e w'=>e = .returned (.tuple #[.string ⟨(Lib.cut s.data.toList sep.data.toList).1.toArray⟩, .string ⟨(Lib.cut s.data.toList sep.data.toList).2.1.toArray⟩, .bool (Lib.cut s.data.toList sep.data.toList).2.2])∧∃ n,w'=w.drewN n:=Any.strings_Cut k53 s sep m w hs hm
def kz8:Go.Shelf.Ren:=⟨fun | 146=>86 | 221=>126 | 268=>157 | 138=>158 | 143=>159 | 195=>181 | 197=>182 | 218=>183 | 219=>125 | 260=>205 | 217=>153 | 225=>154 | 224=>155 | 267=>156 | 266=>179 | 314=>180 | n=>n,fun | 9=>9 | 31=>84 | 3=>3 | 4=>4 | 0=>0 | 105=>227 | 21=>21 | 5=>5 | 46=>198 | 119=>246 | 139=>249 | 138=>248 | 146=>225 | 51=>224 | n=>n,fun | 1=>0 | 3=>2 | 4=>3 | n=>n⟩
theorem k5q:Go.Proofs.Lays.n146 Tryz.prog kz8:={
 mixed:=by kernel_rfl
 f138:=Tryz.func158.trans (congrArg some (by kernel_rfl))
 f143:=Tryz.func159.trans (congrArg some (by kernel_rfl))
 f146:=Tryz.func86.trans (congrArg some (by kernel_rfl))
 f195:=Tryz.func181.trans (congrArg some (by kernel_rfl))
 f197:=Tryz.func182.trans (congrArg some (by kernel_rfl))
 f217:=Tryz.func153.trans (congrArg some (by kernel_rfl))
 f218:=Tryz.func183.trans (congrArg some (by kernel_rfl))
 f219:=Tryz.func125.trans (congrArg some (by kernel_rfl))
 f221:=Tryz.func126.trans (congrArg some (by kernel_rfl))
 f224:=Tryz.func155.trans (congrArg some (by kernel_rfl))
 f225:=Tryz.func154.trans (congrArg some (by kernel_rfl))
 f260:=Tryz.func205.trans (congrArg some (by kernel_rfl))
 f266:=Tryz.func179.trans (congrArg some (by kernel_rfl))
 f267:=Tryz.func156.trans (congrArg some (by kernel_rfl))
 f268:=Tryz.func157.trans (congrArg some (by kernel_rfl))
 f314:=Tryz.func180.trans (congrArg some (by kernel_rfl))
 t0:=Tryz.underlying0
 a0:=Tryz.isAgg0
 z0:=Tryz.sizeOf0
 v0:=Tryz.zeroValue0
 t3:=Tryz.underlying3
 a3:=Tryz.isAgg3
 z3:=Tryz.sizeOf3
 v3:=Tryz.zeroValue3
 t4:=Tryz.underlying4
 a4:=Tryz.isAgg4
 z4:=Tryz.sizeOf4
 v4:=Tryz.zeroValue4
 t5:=Tryz.underlying5
 a5:=Tryz.isAgg5
 z5:=Tryz.sizeOf5
 v5:=Tryz.zeroValue5
 t9:=Tryz.underlying9
 a9:=Tryz.isAgg9
 z9:=Tryz.sizeOf9
 v9:=Tryz.zeroValue9
 t21:=Tryz.underlying21
 a21:=Tryz.isAgg21
 z21:=Tryz.sizeOf21
 v21:=Tryz.zeroValue21
 t31:=Tryz.underlying84
 a31:=Tryz.isAgg84
 z31:=Tryz.sizeOf84
 v31:=Tryz.zeroValue84
 t46:=Tryz.underlying198
 a46:=Tryz.isAgg198
 z46:=Tryz.sizeOf198
 v46:=Tryz.zeroValue198
 t51:=Tryz.underlying224
 a51:=Tryz.isAgg224
 z51:=Tryz.sizeOf224
 v51:=Tryz.zeroValue224
 t105:=Tryz.underlying227
 a105:=Tryz.isAgg227
 z105:=Tryz.sizeOf227
 v105:=Tryz.zeroValue227
 t119:=Tryz.underlying246
 a119:=Tryz.isAgg246
 z119:=Tryz.sizeOf246
 t138:=Tryz.underlying248
 a138:=Tryz.isAgg248
 z138:=Tryz.sizeOf248
 v138:=Tryz.zeroValue248
 t139:=Tryz.underlying249
 a139:=Tryz.isAgg249
 z139:=Tryz.sizeOf249
 v139:=Tryz.zeroValue249
 t146:=Tryz.underlying225
 a146:=Tryz.isAgg225
 z146:=Tryz.sizeOf225
 v146:=Tryz.zeroValue225
 g1:=by kernel_rfl
 g3:=by kernel_rfl
 g4:=by kernel_rfl }
open Go.RowKit Go.Lib in
theorem kxc (s sep:BA) (m:Int) (w:World) (hs:s.size<4294967281) (hm:w.cell? ⟨0,0,none⟩=some (.int .i64 m)) (h1:1≤sep.size):
  Calls Tryz.prog 86 #[.string s, .string sep] w fun e w'=>e = .returned (.slice (some ⟨w.heap.size,0,none⟩) (Lib.countB s sep+1) (Lib.countB s sep+1))∧w'=w.alloc (.cells ((Lib.splitB sep 0 (Lib.countB s sep) s).map Value.string).toArray 9):=Any.strings_Split k5q (by kernel_rfl) s sep m w hs hm h1
abbrev kago:FuncId:=43
abbrev cutF:FuncId:=46
abbrev kac2:FuncId:=86
abbrev maxG:Nat:=0
theorem kahu : ∃ fn, Tryz.prog.funcs[kago]? = some fn ∧ fn.body.isNone = false ∧ (fn.name == "runtime.NumGoroutine") = false := ⟨_, Tryz.func43, by kernel_rfl, by kernel_rfl⟩
end Go.Proofs.YtaimpcnpifoidaaGreatDoor
set_option linter.unusedVariables false
set_option linter.unusedSimpArgs false
namespace Go.Proofs.YtaimpcnpifoidaaGreatDoor
open Go Go.RowKit
def kzq (xs:List BA) (sep:BA):BA:=⟨(Lib.join (xs.map (·.data.toList)) sep.data.toList).toArray⟩
def strings_Join (xs:List BA) (sep:BA):Option BA:=if xs.length≤140737488355328∧(kzq xs sep).size≤140737488355328 then some (kzq xs sep) else none
theorem kry:∀ (x0:List BA) (x1:BA) r,strings_Join x0 x1=some r→kae Tryz.prog kago [(eL 1 eS) x0,eS x1] (eS r):=by
 intro xs sep r h
 unfold strings_Join at h
 split at h
 ·rename_i hb
  obtain ⟨hb1,hb2⟩:=hb
  injection h with h
  subst h
  refine ⟨kahu,fun S w vs hn hr=>?_⟩
  obtain ⟨l⟩:=vs
  match l,hn with
  | [u,v],_=>
   have h0:=hr 0 u _ rfl rfl
   have h1:=(hr 1 v _ rfl rfl).atom_eq
   subst h1
   have hsz:(kzq xs sep).size=(Lib.join (xs.map (·.data.toList)) sep.data.toList).length:=by simp [kzq,ByteArray.size]
   unfold eL at h0
   cases h0 with
   | @lst A cap _ _ _ css e1 hc hm hs ha hl hr0=>
    cases xs with
    | nil=>
     refine (kth A cap sep w).mono ?_
     rintro e w' ⟨rfl,rfl⟩
     refine ⟨_,rfl,?_,kaj _⟩
     exact .atom rfl
    | cons x xs=>
     obtain ⟨b,o,hA,hS,hat⟩:=ha 0 (eS x) rfl
     subst hA
     have hcell:∀ (j:Nat) y,(x::xs)[j]?=some y→w.cell? ⟨b,o+j,none⟩=some (.string y):=by
      intro j y hy
      have hy':((x::xs).map eS)[j]?=some (eS y):=by rw [List.getElem?_map,hy];rfl
      obtain ⟨b',o',q1,q2,q3⟩:=ha j (eS y) hy'
      injection q1 with q1
      injection q1 with q1 q4
      subst q1 q4
      obtain ⟨k1,k2,k3⟩:=hl j (eS y) hy'
      match hcs:css j,k1 with
      | [z],_=>
       have hz:=(hr0 j (eS y) 0 z (eS y) hy' (by rw [hcs];rfl) rfl).atom_eq
       have:=q3 0 z (by rw [hcs];rfl)
       rw [hz] at this
       simpa using this
     refine (kx6 b o cap (x::xs) sep w hcell (kw9 (hcell 0 x rfl)) hb1 hc (by rw [← hsz];exact hb2)).mono ?_
     rintro e w' ⟨rfl,hw⟩
     exact ⟨_,rfl, .atom rfl,⟨hw.os,hw.tape,hw.output,hw.size,hw.block⟩⟩
 ·cases h
def cutB (s sep:BA):BA×BA×Bool:=(⟨(Lib.cut s.data.toList sep.data.toList).1.toArray⟩,⟨(Lib.cut s.data.toList sep.data.toList).2.1.toArray⟩,(Lib.cut s.data.toList sep.data.toList).2.2)
def k7v (s sep:BA):Option (BA×BA×Bool):=if s.size<4294967281 then some (cutB s sep) else none
def ks1 (s sep:BA):List BA:=Lib.splitB sep 0 (Lib.countB s sep) s
def kw4 (s sep:BA):Option (List BA):=if s.size<4294967281∧1≤sep.size∧(ks1 s sep).length=Lib.countB s sep+1∧Lib.countB s sep+1≤9223372036854775807 then some (ks1 s sep) else none
section
variable {F S0:Nat→Prop} {w:World} {S:Nat→Prop} {ψ:Env} {o:Oper} {st:St} {id:Nat} {ts:Array TypeId} {X Y:Operand} {s sep:BA} {m:Nat} {gs:List (Nat×Array Value)}
theorem k65 (hO:∀ id o,kab st.heap id=some o→ObR ψ (·∈st.ids) S w id o) (hob:kab st.heap id=some (.glb gs)) (hm:gs[m]?=some (maxG,#[])):∃ n,w.cell? ⟨maxG,0,none⟩=some (.int .i64 n):=by
 obtain ⟨_,_,_,h⟩:=hO id _ hob
 obtain ⟨_,hh⟩:=h (maxG,#[]) (qt hm)
 rcases hh with ⟨h0,_⟩ | ⟨_,n,e,d,hh⟩
 ·cases h0
 ·exact ⟨n,by simp only [World.cell?,hh];rfl⟩
theorem n_cut {v : BA × BA × Bool} (h : k7v s sep = some v) (hf : ∃ fn, Tryz.prog.funcs[cutF]? = some fn ∧ fn.body.isNone = false ∧ (fn.name == "runtime.NumGoroutine") = false)
  (ho:o.op = .call { callee := .value (.func cutF),args:=#[X,Y],argTypes:=ts }) (hx:st.eval X = .fz (.atom (.string s))) (hy:st.eval Y = .fz (.atom (.string sep))) (hob:kab st.heap id=some (.glb gs)) (hm:gs[m]?=some (maxG,#[])):
  NStep Tryz.prog o st (.fz (.tup [eS v.1,eS v.2.1,eB v.2.2])):=by
 unfold k7v at h
 split at h
 ·rename_i hs
  injection h with h
  subst h
  intro ψ S a w ht hO
  have hxa:=Sim.eval_tmps ht X
  rw [hx] at hxa
  have hya:=Sim.eval_tmps ht Y
  rw [hy] at hya
  obtain ⟨n,hn⟩:=k65 hO hob hm
  unfold khr
  rw [kr3 ho hf]
  rw [show (#[X,Y].map a.eval)=#[.string s, .string sep] by simp [hxa.atom,hya.atom]]
  refine (ky2 s sep n w hs hn).mono ?_
  rintro e w' ⟨rfl,k,rfl⟩
  refine ⟨_,rfl,⟨rfl,rfl,rfl,qw _,fun b hb=>rfl⟩, .fz (.tup rfl fun i u y hu hy=>?_)⟩
  match i with
  | 0=>simp at hu hy;subst hu hy;exact .atom rfl
  | 1=>simp at hu hy;subst hu hy;exact .atom rfl
  | 2=>simp at hu hy;subst hu hy;exact .atom rfl
  | i+3=>simp at hu
 ·cases h
theorem k7n {v : List BA} (h : kw4 s sep = some v) (hf : ∃ fn, Tryz.prog.funcs[kac2]? = some fn ∧ fn.body.isNone = false ∧ (fn.name == "runtime.NumGoroutine") = false)
  (ho:o.op = .call { callee := .value (.func kac2),args:=#[X,Y],argTypes:=ts }) (hx:st.eval X = .fz (.atom (.string s))) (hy:st.eval Y = .fz (.atom (.string sep))) (hob:kab st.heap id=some (.glb gs)) (hm:gs[m]?=some (maxG,#[])):
  NStep Tryz.prog o st (.fz (eL 1 eS v)):=by
 unfold kw4 at h
 split at h
 ·rename_i hs
  obtain ⟨hs,h1,hl,hmx⟩:=hs
  injection h with h
  subst h
  intro ψ S a w ht hO
  have hxa:=Sim.eval_tmps ht X
  rw [hx] at hxa
  have hya:=Sim.eval_tmps ht Y
  rw [hy] at hya
  obtain ⟨n,hn⟩:=k65 hO hob hm
  unfold khr
  rw [kr3 ho hf]
  rw [show (#[X,Y].map a.eval)=#[.string s, .string sep] by simp [hxa.atom,hya.atom]]
  refine (kxc s sep n w hs hn h1).mono ?_
  rintro e w' ⟨rfl,rfl⟩
  refine ⟨_,rfl,kde _ _, .fz ?_⟩
  have hk:∀ (i:Nat) (x:FV),((ks1 s sep).map eS)[i]?=some x→∃ y,(ks1 s sep)[i]?=some y∧x=eS y:=fun i x hx=>by
   simp only [List.getElem?_map,qj] at hx
   obtain ⟨y,h1,h2⟩:=hx
   exact ⟨y,h1,h2.symm⟩
  unfold eL
  rw [hl]
  refine .lst (fun i=>[.string ((ks1 s sep).getD i ⟨#[]⟩)]) (by simp [hl]) (qw _) hmx (by decide) (fun i x hx=>?_) (fun i x hx=>?_) fun i x j v y hx hv hy=>?_
  ·obtain ⟨y,h1,rfl⟩:=hk i x hx
   refine ⟨w.heap.size,0,rfl, .inr (qw _),fun j u hu=>?_⟩
   match j with
   | 0=>
    simp only [List.getElem?_cons_zero,qh] at hu
    subst hu
    simp only [World.cell?,heap_alloc_new]
    show ((ks1 s sep).map Value.string).toArray[0+i*1+0]?=_
    simp [List.getD,h1]
   | j+1=>simp at hu
  ·obtain ⟨y,h1,rfl⟩:=hk i x hx
   exact ⟨rfl,rfl,fun y hy=>by simp [eS,FV.cells] at hy;subst hy;rfl⟩
  ·obtain ⟨z,h1,rfl⟩:=hk i x hx
   match j with
   | 0=>
    simp only [List.getElem?_cons_zero,qh] at hv
    simp only [eS,FV.cells,List.getElem?_cons_zero,qh] at hy
    subst hv hy
    simp only [List.getD,h1,qap]
    exact .atom rfl
   | j+1=>simp at hv
 ·cases h
end
end Go.Proofs.YtaimpcnpifoidaaGreatDoor
