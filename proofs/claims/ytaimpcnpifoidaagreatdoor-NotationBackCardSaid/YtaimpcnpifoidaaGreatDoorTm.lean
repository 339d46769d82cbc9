import Derived.Test.YtaimpcnpifoidaaGreatDoorRel
import Derived.Maps.AppendAt
import Derived.Deep.AppendLies
import Derived.ChangeMaps5
import Derived.JoinedOf
import Derived.Test.YtaimpcnpifoidaaGreatDoorRows
set_option linter.unusedVariables false
set_option linter.unusedSimpArgs false
namespace Go.Proofs.YtaimpcnpifoidaaGreatDoor
open Go Go.RowKit
def khm (n:Int):Prop := -9223372036854775808≤n∧n≤9223372036854775807
def At (w:World) (b o:Nat) (cs:List Value):Prop:=∀ j u,cs[j]?=some u→w.cell? ⟨b,o+j,none⟩=some u
def Same (S:Nat→Prop) (w w':World):Prop:=∀ b,S b→b<w.heap.size→w'.heap[b]?=w.heap[b]?
abbrev Grow (w w':World):Prop:=Below w.heap.size w w'
theorem kde (w:World) (o:Obj):Grow w (w.alloc o):=(Below.refl _ _).alloc (qw _) _
theorem kaj (w:World):Grow w w:=Below.refl _ _
section
variable {T:Type} {S S':Nat→Prop} {w w' w'':World} {b o:Nat} {cs:List Value}
theorem kw9 {w:World} {a:Addr} {u:Value} (h:w.cell? a=some u):a.block<w.heap.size:=by
 rcases qaz a.block w.heap.size with h' | h'
 ·exact h'
 ·simp [World.cell?,Array.getElem?_eq_none h'] at h
theorem Same.of_grow (h:Grow w w'):Same S w w':=fun b _ hb=>h.block b hb
theorem At.keep (h:At w b o cs) (hS:S b) (hk:Same S w w'):At w' b o cs:=fun j u hu=>by
 have h1:=h j u hu
 rw [World.cell?_of_block (w:=w)]
 ·exact h1
 ·exact hk b hS (kw9 h1)
def RepSl (S:Nat→Prop) (w:World) (size:Nat) (R:List Value→T→Prop) (v:Value) (xs:List T):Prop:=
 ∃ A cap,v = .slice A xs.length cap∧xs.length≤cap∧cap≤9223372036854775807 ∧
  ∀ (i:Nat) (x:T),xs[i]?=some x→∃ b o cs,A=some ⟨b,o,none⟩∧S b∧At w b (o+i*size) cs∧cs.length=size∧R cs x
theorem RepSl.nil {size cap:Nat} {R:List Value→T→Prop} {A:Option Addr} (hc:cap≤9223372036854775807):RepSl S w size R (.slice A 0 cap) []:=
 ⟨A,cap,rfl,by simp,hc,fun i x h=>by simp at h⟩
def Any:Nat→Prop:=fun _=>True
def IntR (cs:List Value) (n:Int):Prop:=cs=[.int .i64 n]∧khm n
def Ints (S:Nat→Prop) (w:World) (v:Value) (ns:List Int):Prop:=RepSl S w 1 IntR v ns
structure Kept (size:Nat) (R:(Nat→Prop)→World→List Value→T→Prop):Prop where
 pos:0<size
 keep:∀ {S w w' cs x},R S w cs x→Same S w w'→R S w' cs x
 mono:∀ {S S':Nat→Prop} {w cs x},R S w cs x→(∀ b,S b→S' b)→R S' w cs x
 bound:∀ {S w cs x},R S w cs x→R (fun b=>S b∧b<w.heap.size) w cs x
 len:∀ {S w cs x},R S w cs x→cs.length=size
 one:∀ {S w cs x},R S w cs x→∀ u∈cs,u.oneCell'=true
variable {D:Nat→Prop} {lo:Nat} {e:TypeId} {size:Nat} {R:(Nat→Prop)→World→List Value→T→Prop} {v:Value} {xs:List T}
theorem k6h {b:Nat} {Q:List Value→T→Prop}:∀ (ys:List T) (o:Nat),(∀ (i:Nat) (y:T),ys[i]?=some y→∃ cs,At w b (o+i*size) cs∧cs.length=size∧Q cs y) →
  ∃ news:List Value,news.length=ys.length*size∧At w b o news∧∀ (i:Nat) (y:T),ys[i]?=some y→Q ((news.drop (i*size)).take size) y
 | [],o,_=>⟨[],by simp,fun j u h=>by simp at h,fun i y h=>by simp at h⟩
 | y::ys,o,h=>by
  obtain ⟨cs,hat,hl,hq⟩:=h 0 y rfl
  obtain ⟨news,hn,hnat,hnq⟩:=k6h (b:=b) (Q:=Q) ys (o+size) fun i z hz=>by
   have:=h (i+1) z (by simpa using hz)
   rwa [show o+(i+1)*size=o+size+i*size by rw [Nat.add_mul];omega] at this
  refine ⟨cs++news,by simp [hl,hn,Nat.add_mul];omega,fun j u hu=>?_,fun i z hz=>?_⟩
  ·by_cases hj:j<size
   ·rw [List.getElem?_append_left (by omega)] at hu
    have:=hat j u hu
    simpa using this
   ·rw [List.getElem?_append_right (by omega),hl] at hu
    have:=hnat _ u hu
    rwa [show o+size+(j - size)=o+j by omega] at this
  ·cases i with
   | zero=>
    simp at hz
    subst hz
    simp only [Nat.zero_mul,qar]
    rw [List.take_append_of_le_length (by omega),List.take_of_length_le (by omega)]
    exact hq
   | succ i=>
    have:=hnq i z (by simpa using hz)
    rw [show (i+1)*size=cs.length+i*size by rw [hl,Nat.add_mul];omega,← List.drop_drop,List.drop_left]
    exact this
theorem kxe {P:Program} (lo:Nat) (t ty e:TypeId) (i:TypeInfo) (size:Nat) (ht:P.underlying t=some (.slice e)) (hi:P.info? e=some i)
  (v:Value) (n:Nat) (xs:List Value) (hown:w.ownsRow lo e size v n xs) (c:Nat):(Builtin.append_ #[t,t] ty #[v, .slice none 0 c]).run P w = .ok v w:=by
 rcases hown.2 with ⟨rfl,rfl⟩ | ⟨g,cap,cur,rfl,_,_,hnc,_⟩
 ·simp [Builtin.append_,run_underlying ht,sizeOf,typeInfo,hi,Builtin.lenOf,Builtin.firstCells]
 ·simp [Builtin.append_,run_underlying ht,sizeOf,typeInfo,hi,Builtin.lenOf,Builtin.firstCells,hnc,storeCells]
end
end Go.Proofs.YtaimpcnpifoidaaGreatDoor
set_option linter.unusedVariables false
set_option linter.unusedSimpArgs false
set_option maxRecDepth 100000
namespace Go.Proofs.YtaimpcnpifoidaaGreatDoor
open Go Go.RowKit Go.ChangeShapes Go.WideShapes
theorem kaid:Tryz.checked.prog.liftsFinal=false:=by as_aux_lemma=>kernel_rfl
end Go.Proofs.YtaimpcnpifoidaaGreatDoor
set_option linter.unusedVariables false
set_option linter.unusedSimpArgs false
namespace Go.Proofs.YtaimpcnpifoidaaGreatDoor
open Go Go.RowKit
inductive Tm where
 | mk (rule:Int) (args:List Tm)
namespace Tm
def rule:Tm→Int | mk r _=>r
def args:Tm→List Tm | mk _ l=>l
theorem ind {P:Tm→Prop} (h:∀ r l,(∀ t∈l,P t)→P (mk r l)) (t:Tm):P t:=
 Tm.rec (motive_1:=P) (motive_2:=fun l=>∀ t∈l,P t) (fun r l ih=>h r l ih) (fun _ h=>nomatch h)
  (fun t l h1 h2 x hx=>(q8.1 hx).elim (fun e=>e ▸ h1) (h2 x)) t
mutual
def size:Tm→Nat
 | mk _ l=>sizeL l+1
def sizeL:List Tm→Nat
 | []=>0
 | t::l=>t.size+sizeL l
end
mutual
def depth:Tm→Nat
 | mk _ l=>depthL l+1
def depthL:List Tm→Nat
 | []=>0
 | t::l=>max t.depth (depthL l)
end
mutual
def pre (g:Tm→Int):Tm→List Int
 | mk r l=>g (mk r l)::preL g l
def preL (g:Tm→Int):List Tm→List Int
 | []=>[]
 | t::l=>t.pre g++preL g l
end
def nargs (t:Tm):Int:=(t.args.length:Int)
def rules (t:Tm):List Int:=t.pre rule
def arities (t:Tm):List Int:=t.pre nargs
theorem sizeL_snoc (l:List Tm) (t:Tm):sizeL (l++[t])=sizeL l+t.size:=by
 induction l with
 | nil=>simp [sizeL]
 | cons x l ih=>simp only [qag,sizeL,ih];omega
theorem depthL_snoc (l:List Tm) (t:Tm):depthL (l++[t])=max (depthL l) t.depth:=by
 induction l with
 | nil=>simp [depthL]
 | cons x l ih=>simp only [qag,depthL,ih];omega
theorem size_pos (t:Tm):1≤t.size:=by cases t;simp [size]
theorem sizeL_mem {l:List Tm} {t:Tm} (h:t∈l):t.size≤sizeL l:=by
 induction l with
 | nil=>cases h
 | cons x l ih=>
  simp only [sizeL]
  rcases q8.1 h with rfl | h
  ·omega
  ·have:=ih h;omega
theorem sizeL_take (l:List Tm) (k:Nat):sizeL (l.take k)≤sizeL l:=by
 induction l generalizing k with
 | nil=>simp [sizeL]
 | cons x l ih=>
  cases k with
  | zero=>simp [sizeL]
  | succ k=>simp only [List.take_succ_cons,sizeL];have:=ih k;omega
theorem pre_length (g:Tm→Int) (t:Tm):(t.pre g).length=t.size:=by
 induction t using Tm.ind with
 | h r l ih=>
  simp only [pre,size,qq]
  have:∀ m:List Tm,(∀ t∈m,(t.pre g).length=t.size)→(preL g m).length=sizeL m:=fun m=>by
   induction m with
   | nil=>simp [preL,sizeL]
   | cons x m ihm=>
    intro h
    simp only [preL,sizeL,ql]
    rw [h x (by simp),ihm fun t ht=>h t (by simp [ht])]
  rw [this l ih]
theorem rules_length (t:Tm):t.rules.length=t.size:=pre_length _ t
theorem arities_length (t:Tm):t.arities.length=t.size:=pre_length _ t
end Tm
section
variable {S S':Nat→Prop} {w w':World}
inductive RepTm (S:Nat→Prop) (w:World):List Value→Tm→Prop where
 | mk (r:Int) (kids:List Tm) (A:Option Addr) (cap:Nat) (css:Nat→List Value) (hr:khm r) (hc:kids.length≤cap) (hm:cap≤9223372036854775807)
  (hA:∀ (i:Nat) (x:Tm),kids[i]?=some x→∃ b o,A=some ⟨b,o,none⟩∧S b∧At w b (o+i*2) (css i))
  (hk:∀ (i:Nat) (x:Tm),kids[i]?=some x→RepTm S w (css i) x):RepTm S w [.int .i64 r, .slice A kids.length cap] (.mk r kids)
abbrev Tms (S:Nat→Prop) (w:World) (v:Value) (l:List Tm):Prop:=RepSl S w 2 (RepTm S w) v l
theorem RepTm.len {cs:List Value} {t:Tm} (h:RepTm S w cs t):cs.length=2:=by cases h;rfl
theorem RepTm.form {cs:List Value} {r:Int} {l:List Tm} (h:RepTm S w cs (.mk r l)):∃ s,cs=[.int .i64 r,s]∧khm r∧Tms S w s l:=by
 cases h with
 | mk _ _ A cap css hr hc hm hA hk=>
  refine ⟨_,rfl,hr,A,cap,rfl,hc,hm,fun i x hx=>?_⟩
  obtain ⟨b,o,h1,h2,h3⟩:=hA i x hx
  exact ⟨b,o,css i,h1,h2,h3,(hk i x hx).len,hk i x hx⟩
theorem RepTm.of {s:Value} {r:Int} {l:List Tm} (hr:khm r) (h:Tms S w s l):RepTm S w [.int .i64 r,s] (.mk r l):=by
 obtain ⟨A,cap,rfl,hc,hm,hx⟩:=h
 have:∀ i:Nat,∃ cs:List Value,∀ x:Tm,l[i]?=some x→(∃ b o,A=some ⟨b,o,none⟩∧S b∧At w b (o+i*2) cs)∧RepTm S w cs x:=fun i=>by
  cases hi:l[i]? with
  | none=>exact ⟨[],fun x h=>by cases h⟩
  | some x=>
   obtain ⟨b,o,cs,h1,h2,h3,_,h5⟩:=hx i x hi
   exact ⟨cs,fun y hy=>by cases hy;exact ⟨⟨b,o,h1,h2,h3⟩,h5⟩⟩
 obtain ⟨css,hcss⟩:=Classical.axiomOfChoice this
 exact .mk r l A cap css hr hc hm (fun i x hi=>(hcss i x hi).1) (fun i x hi=>(hcss i x hi).2)
def TmV (S:Nat→Prop) (w:World) (v:Value) (t:Tm):Prop:=∃ c0 c1,v = .agg #[c0,c1]∧RepTm S w [c0,c1] t
end
end Go.Proofs.YtaimpcnpifoidaaGreatDoor
