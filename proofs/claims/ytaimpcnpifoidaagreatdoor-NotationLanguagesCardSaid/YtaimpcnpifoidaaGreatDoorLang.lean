import Derived.Test.YtaimpcnpifoidaaGreatDoorRel
import Derived.Maps.AppendAt
import Derived.Deep.AppendLies
import Derived.ChangeMaps5
import Derived.JoinedOf
import Derived.Test.YtaimpcnpifoidaaGreatDoorRows
set_option linter.unusedVariables false
set_option linter.unusedSimpArgs false
namespace Go.Proofs.YtaimpcnpifoidaaGreatDoor
open Go Go.RowKit
def kjo (n:Int):Prop := -9223372036854775808≤n∧n≤9223372036854775807
def At (w:World) (b o:Nat) (cs:List Value):Prop:=∀ j u,cs[j]?=some u→w.cell? ⟨b,o+j,none⟩=some u
def Same (S:Nat→Prop) (w w':World):Prop:=∀ b,S b→b<w.heap.size→w'.heap[b]?=w.heap[b]?
abbrev Grow (w w':World):Prop:=Below w.heap.size w w'
theorem kdd (w:World) (o:Obj):Grow w (w.alloc o):=(Below.refl _ _).alloc (qw _) _
theorem kai (w:World):Grow w w:=Below.refl _ _
section
variable {T:Type} {S S':Nat→Prop} {w w' w'':World} {b o:Nat} {cs:List Value}
theorem kwk {w:World} {a:Addr} {u:Value} (h:w.cell? a=some u):a.block<w.heap.size:=by
 rcases qay a.block w.heap.size with h' | h'
 ·exact h'
 ·simp [World.cell?,Array.getElem?_eq_none h'] at h
theorem Same.of_grow (h:Grow w w'):Same S w w':=fun b _ hb=>h.block b hb
theorem At.keep (h:At w b o cs) (hS:S b) (hk:Same S w w'):At w' b o cs:=fun j u hu=>by
 have h1:=h j u hu
 rw [World.cell?_of_block (w:=w)]
 ·exact h1
 ·exact hk b hS (kwk h1)
def RepSl (S:Nat→Prop) (w:World) (size:Nat) (R:List Value→T→Prop) (v:Value) (xs:List T):Prop:=
 ∃ A cap,v = .slice A xs.length cap∧xs.length≤cap∧cap≤9223372036854775807 ∧
  ∀ (i:Nat) (x:T),xs[i]?=some x→∃ b o cs,A=some ⟨b,o,none⟩∧S b∧At w b (o+i*size) cs∧cs.length=size∧R cs x
theorem RepSl.nil {size cap:Nat} {R:List Value→T→Prop} {A:Option Addr} (hc:cap≤9223372036854775807):RepSl S w size R (.slice A 0 cap) []:=
 ⟨A,cap,rfl,by simp,hc,fun i x h=>by simp at h⟩
def Any:Nat→Prop:=fun _=>True
def IntR (cs:List Value) (n:Int):Prop:=cs=[.int .i64 n]∧kjo n
def Ints (S:Nat→Prop) (w:World) (v:Value) (ns:List Int):Prop:=RepSl S w 1 IntR v ns
structure Kept (size:Nat) (R:(Nat→Prop)→World→List Value→T→Prop):Prop where
 pos:0<size
 keep:∀ {S w w' cs x},R S w cs x→Same S w w'→R S w' cs x
 mono:∀ {S S':Nat→Prop} {w cs x},R S w cs x→(∀ b,S b→S' b)→R S' w cs x
 bound:∀ {S w cs x},R S w cs x→R (fun b=>S b∧b<w.heap.size) w cs x
 len:∀ {S w cs x},R S w cs x→cs.length=size
 one:∀ {S w cs x},R S w cs x→∀ u∈cs,u.oneCell'=true
variable {D:Nat→Prop} {lo:Nat} {e:TypeId} {size:Nat} {R:(Nat→Prop)→World→List Value→T→Prop} {v:Value} {xs:List T}
theorem k7v {b:Nat} {Q:List Value→T→Prop}:∀ (ys:List T) (o:Nat),(∀ (i:Nat) (y:T),ys[i]?=some y→∃ cs,At w b (o+i*size) cs∧cs.length=size∧Q cs y) →
  ∃ news:List Value,news.length=ys.length*size∧At w b o news∧∀ (i:Nat) (y:T),ys[i]?=some y→Q ((news.drop (i*size)).take size) y
 | [],o,_=>⟨[],by simp,fun j u h=>by simp at h,fun i y h=>by simp at h⟩
 | y::ys,o,h=>by
  obtain ⟨cs,hat,hl,hq⟩:=h 0 y rfl
  obtain ⟨news,hn,hnat,hnq⟩:=k7v (b:=b) (Q:=Q) ys (o+size) fun i z hz=>by
   have:=h (i+1) z (by simpa using hz)
   rwa [show o+(i+1)*size=o+size+i*size by rw [Nat.add_mul];omega] at this
  refine ⟨cs++news,by simp [hl,hn,Nat.add_mul];omega,fun j u hu=>?_,fun i z hz=>?_⟩
  ·by_cases hj:j<size
   ·rw [List.getElem?_append_left (by omega)] at hu
    have:=hat j u hu
    simpa using this
   ·rw [List.getElem?_append_right (by omega),hl] at hu
    have:=hnat _ u hu
    rwa [show o+size+(j - size)=o+j by omega] at this
  ·cases i with
   | zero=>
    simp at hz
    subst hz
    simp only [Nat.zero_mul,List.drop_zero]
    rw [List.take_append_of_le_length (by omega),List.take_of_length_le (by omega)]
    exact hq
   | succ i=>
    have:=hnq i z (by simpa using hz)
    rw [show (i+1)*size=cs.length+i*size by rw [hl,Nat.add_mul];omega,← List.drop_drop,List.drop_left]
    exact this
theorem kw6 {P:Program} (lo:Nat) (t ty e:TypeId) (i:TypeInfo) (size:Nat) (ht:P.underlying t=some (.slice e)) (hi:P.info? e=some i)
  (v:Value) (n:Nat) (xs:List Value) (hown:w.ownsRow lo e size v n xs) (c:Nat):(Builtin.append_ #[t,t] ty #[v, .slice none 0 c]).run P w = .ok v w:=by
 rcases hown.2 with ⟨rfl,rfl⟩ | ⟨g,cap,cur,rfl,_,_,hnc,_⟩
 ·simp [Builtin.append_,run_underlying ht,sizeOf,typeInfo,hi,Builtin.lenOf,Builtin.firstCells]
 ·simp [Builtin.append_,run_underlying ht,sizeOf,typeInfo,hi,Builtin.lenOf,Builtin.firstCells,hnc,storeCells]
end
end Go.Proofs.YtaimpcnpifoidaaGreatDoor
set_option linter.unusedVariables false
set_option linter.unusedSimpArgs false
set_option maxRecDepth 100000
namespace Go.Proofs.YtaimpcnpifoidaaGreatDoor
open Go Go.RowKit Go.ChangeShapes Go.WideShapes
theorem kaj1:laidOutB Tryz.checked.prog=true:=by as_aux_lemma=>kernel_rfl
theorem kai8:mapsRowed Tryz.checked.prog=true:=by as_aux_lemma=>kernel_rfl
theorem kaij:Tryz.checked.prog.stopsHeard=true:=by as_aux_lemma=>kernel_rfl
end Go.Proofs.YtaimpcnpifoidaaGreatDoor
set_option linter.unusedVariables false
set_option linter.unusedSimpArgs false
namespace Go.Proofs.YtaimpcnpifoidaaGreatDoor
open Go Go.RowKit
inductive Va where
 | mk (type num:Int) (text:BA) (items:List Va)
namespace Va
def type:Va→Int | mk t _ _ _=>t
def num:Va→Int | mk _ n _ _=>n
def text:Va→BA | mk _ _ s _=>s
def items:Va→List Va | mk _ _ _ l=>l
theorem ind {P:Va→Prop} (h:∀ t n s l,(∀ v∈l,P v)→P (mk t n s l)) (v:Va):P v:=
 Va.rec (motive_1:=P) (motive_2:=fun l=>∀ t∈l,P t) (fun t n s l ih=>h t n s l ih) (fun _ h=>nomatch h)
  (fun t l h1 h2 x hx=>(qs.1 hx).elim (fun e=>e ▸ h1) (h2 x)) v
end Va
structure Sy where
 name:BA
 type:Int
structure Ru where
 symbol:Int
 kind:Int
 input:Int
 const:Va
 op:BA
 args:List Int
structure La where
 name:BA
 inputs:List Int
 symbols:List Sy
 rules:List Ru
def ktw (s:BA):Prop:=s.size≤9223372036854775807
section
variable {S S':Nat→Prop} {w w':World}
inductive RepVa (S:Nat→Prop) (w:World):List Value→Va→Prop where
 | mk (t n:Int) (s:BA) (kids:List Va) (A:Option Addr) (cap:Nat) (css:Nat→List Value) (ht:kjo t) (hn:kjo n) (hs:ktw s) (hc:kids.length≤cap) (hm:cap≤9223372036854775807)
  (hA:∀ (i:Nat) (x:Va),kids[i]?=some x→∃ b o,A=some ⟨b,o,none⟩∧S b∧At w b (o+i*4) (css i))
  (hk:∀ (i:Nat) (x:Va),kids[i]?=some x→RepVa S w (css i) x):RepVa S w [.int .i64 t, .int .i64 n, .string s, .slice A kids.length cap] (.mk t n s kids)
abbrev Vas (S:Nat→Prop) (w:World) (v:Value) (l:List Va):Prop:=RepSl S w 4 (RepVa S w) v l
theorem RepVa.len {cs:List Value} {t:Va} (h:RepVa S w cs t):cs.length=4:=by cases h;rfl
theorem RepVa.form {cs:List Value} {t n:Int} {s:BA} {l:List Va} (h:RepVa S w cs (.mk t n s l)):∃ v,cs=[.int .i64 t, .int .i64 n, .string s,v]∧kjo t∧kjo n∧ktw s∧Vas S w v l:=by
 cases h with
 | mk _ _ _ _ A cap css ht hn hs hc hm hA hk=>
  refine ⟨_,rfl,ht,hn,hs,A,cap,rfl,hc,hm,fun i x hx=>?_⟩
  obtain ⟨b,o,h1,h2,h3⟩:=hA i x hx
  exact ⟨b,o,css i,h1,h2,h3,(hk i x hx).len,hk i x hx⟩
theorem RepVa.of {v:Value} {t n:Int} {s:BA} {l:List Va} (ht:kjo t) (hn:kjo n) (hs:ktw s) (h:Vas S w v l):RepVa S w [.int .i64 t, .int .i64 n, .string s,v] (.mk t n s l):=by
 obtain ⟨A,cap,rfl,hc,hm,hx⟩:=h
 have:∀ i:Nat,∃ cs:List Value,∀ x:Va,l[i]?=some x→(∃ b o,A=some ⟨b,o,none⟩∧S b∧At w b (o+i*4) cs)∧RepVa S w cs x:=fun i=>by
  cases hi:l[i]? with
  | none=>exact ⟨[],fun x h=>by cases h⟩
  | some x=>
   obtain ⟨b,o,cs,h1,h2,h3,_,h5⟩:=hx i x hi
   exact ⟨cs,fun y hy=>by cases hy;exact ⟨⟨b,o,h1,h2,h3⟩,h5⟩⟩
 obtain ⟨css,hcss⟩:=Classical.axiomOfChoice this
 exact .mk t n s l A cap css ht hn hs hc hm (fun i x hi=>(hcss i x hi).1) (fun i x hi=>(hcss i x hi).2)
section
variable {T:Type} {size:Nat} {R:(Nat→Prop)→World→List Value→T→Prop} {v:Value} {l:List T}
end
def k2q (S:Nat→Prop) (w:World) (cs:List Value) (x:Sy):Prop:=cs=[.string x.name, .int .i64 x.type]∧ktw x.name∧kjo x.type
def k2u (S:Nat→Prop) (w:World) (cs:List Value) (x:Ru):Prop:=
 ∃ c0 c1 c2 c3 v,cs=[.int .i64 x.symbol, .int .i64 x.kind, .int .i64 x.input,c0,c1,c2,c3, .string x.op,v]∧kjo x.symbol∧kjo x.kind∧kjo x.input∧ktw x.op∧RepVa S w [c0,c1,c2,c3] x.const∧Ints S w v x.args
abbrev Sys (S:Nat→Prop) (w:World) (v:Value) (l:List Sy):Prop:=RepSl S w 2 (k2q S w) v l
abbrev Rus (S:Nat→Prop) (w:World) (v:Value) (l:List Ru):Prop:=RepSl S w 9 (k2u S w) v l
def kags (S:Nat→Prop) (w:World) (cs:List Value) (x:La):Prop:=
 ∃ v1 v2 v3,cs=[.string x.name,v1,v2,v3]∧ktw x.name∧Ints S w v1 x.inputs∧Sys S w v2 x.symbols∧Rus S w v3 x.rules
def LaV (S:Nat→Prop) (w:World) (v:Value) (x:La):Prop:=∃ cs:List Value,v = .agg cs.toArray∧kags S w cs x
end
end Go.Proofs.YtaimpcnpifoidaaGreatDoor
