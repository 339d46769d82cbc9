import Derived.Test.YtaimpcnpifoidaaGreatDoorRel
import Derived.Maps.AppendAt
import Derived.Deep.AppendLies
import Derived.ChangeMaps5
import Derived.JoinedOf
import Derived.Test.YtaimpcnpifoidaaGreatDoorRows
set_option linter.unusedVariables false
set_option linter.unusedSimpArgs false
namespace Go.Proofs.YtaimpcnpifoidaaGreatDoor
open Go Go.RowKit
def kz4 (n:Int):Prop := -9223372036854775808≤n∧n≤9223372036854775807
def At (w:World) (b o:Nat) (cs:List Value):Prop:=∀ j u,cs[j]?=some u→w.cell? ⟨b,o+j,none⟩=some u
def Same (S:Nat→Prop) (w w':World):Prop:=∀ b,S b→b<w.heap.size→w'.heap[b]?=w.heap[b]?
abbrev Grow (w w':World):Prop:=Below w.heap.size w w'
theorem kcz (w:World) (o:Obj):Grow w (w.alloc o):=(Below.refl _ _).alloc (qt _) _
theorem kah (w:World):Grow w w:=Below.refl _ _
section
variable {T:Type} {S S':Nat→Prop} {w w' w'':World} {b o:Nat} {cs:List Value}
theorem ku3 {w:World} {a:Addr} {u:Value} (h:w.cell? a=some u):a.block<w.heap.size:=by
 rcases qat a.block w.heap.size with h' | h'
 ·exact h'
 ·simp [World.cell?,Array.getElem?_eq_none h'] at h
theorem Same.of_grow (h:Grow w w'):Same S w w':=fun b _ hb=>h.block b hb
theorem At.keep (h:At w b o cs) (hS:S b) (hk:Same S w w'):At w' b o cs:=fun j u hu=>by
 have h1:=h j u hu
 rw [World.cell?_of_block (w:=w)]
 ·exact h1
 ·exact hk b hS (ku3 h1)
def Any:Nat→Prop:=fun _=>True
structure Kept (size:Nat) (R:(Nat→Prop)→World→List Value→T→Prop):Prop where
 pos:0<size
 keep:∀ {S w w' cs x},R S w cs x→Same S w w'→R S w' cs x
 mono:∀ {S S':Nat→Prop} {w cs x},R S w cs x→(∀ b,S b→S' b)→R S' w cs x
 bound:∀ {S w cs x},R S w cs x→R (fun b=>S b∧b<w.heap.size) w cs x
 len:∀ {S w cs x},R S w cs x→cs.length=size
 one:∀ {S w cs x},R S w cs x→∀ u∈cs,u.oneCell'=true
variable {D:Nat→Prop} {lo:Nat} {e:TypeId} {size:Nat} {R:(Nat→Prop)→World→List Value→T→Prop} {v:Value} {xs:List T}
theorem k3t {b:Nat} {Q:List Value→T→Prop}:∀ (ys:List T) (o:Nat),(∀ (i:Nat) (y:T),ys[i]?=some y→∃ cs,At w b (o+i*size) cs∧cs.length=size∧Q cs y) →
  ∃ news:List Value,news.length=ys.length*size∧At w b o news∧∀ (i:Nat) (y:T),ys[i]?=some y→Q ((news.drop (i*size)).take size) y
 | [],o,_=>⟨[],by simp,fun j u h=>by simp at h,fun i y h=>by simp at h⟩
 | y::ys,o,h=>by
  obtain ⟨cs,hat,hl,hq⟩:=h 0 y rfl
  obtain ⟨news,hn,hnat,hnq⟩:=k3t (b:=b) (Q:=Q) ys (o+size) fun i z hz=>by
   have:=h (i+1) z (by simpa using hz)
   rwa [show o+(i+1)*size=o+size+i*size by rw [Nat.add_mul];omega] at this
  refine ⟨cs++news,by simp [hl,hn,Nat.add_mul];omega,fun j u hu=>?_,fun i z hz=>?_⟩
  ·by_cases hj:j<size
   ·rw [List.getElem?_append_left (by omega)] at hu
    have:=hat j u hu
    simpa using this
   ·rw [List.getElem?_append_right (by omega),hl] at hu
    have:=hnat _ u hu
    rwa [show o+size+(j - size)=o+j by omega] at this
  ·cases i with
   | zero=>
    simp at hz
    subst hz
    simp only [Nat.zero_mul,List.drop_zero]
    rw [List.take_append_of_le_length (by omega),List.take_of_length_le (by omega)]
    exact hq
   | succ i=>
    have:=hnq i z (by simpa using hz)
    rw [show (i+1)*size=cs.length+i*size by rw [hl,Nat.add_mul];omega,← List.drop_drop,List.drop_left]
    exact this
theorem ku9 {P:Program} (lo:Nat) (t ty e:TypeId) (i:TypeInfo) (size:Nat) (ht:P.underlying t=some (.slice e)) (hi:P.info? e=some i)
  (v:Value) (n:Nat) (xs:List Value) (hown:w.ownsRow lo e size v n xs) (c:Nat):(Builtin.append_ #[t,t] ty #[v, .slice none 0 c]).run P w = .ok v w:=by
 rcases hown.2 with ⟨rfl,rfl⟩ | ⟨g,cap,cur,rfl,_,_,hnc,_⟩
 ·simp [Builtin.append_,run_underlying ht,sizeOf,typeInfo,hi,Builtin.lenOf,Builtin.firstCells]
 ·simp [Builtin.append_,run_underlying ht,sizeOf,typeInfo,hi,Builtin.lenOf,Builtin.firstCells,hnc,storeCells]
end
end Go.Proofs.YtaimpcnpifoidaaGreatDoor
set_option linter.unusedVariables false
set_option linter.unusedSimpArgs false
set_option maxRecDepth 100000
namespace Go.Proofs.YtaimpcnpifoidaaGreatDoor
open Go Go.RowKit Go.ChangeShapes Go.WideShapes
theorem k50:Tryz.checked.prog.mayEnter=true:=by as_aux_lemma=>kernel_rfl
end Go.Proofs.YtaimpcnpifoidaaGreatDoor
set_option linter.unusedVariables false
set_option linter.unusedSimpArgs false
set_option maxRecDepth 100000
namespace Go.Proofs.YtaimpcnpifoidaaGreatDoor
open Go Go.RowKit Go.ChangeShapes Go.WideShapes
theorem kaf6:laidOutB Tryz.checked.prog=true:=by as_aux_lemma=>kernel_rfl
theorem kad8:mapsRowed Tryz.checked.prog=true:=by as_aux_lemma=>kernel_rfl
theorem kadt:Tryz.checked.prog.stopsHeard=true:=by as_aux_lemma=>kernel_rfl
end Go.Proofs.YtaimpcnpifoidaaGreatDoor
