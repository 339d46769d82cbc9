import Derived.Test.YtaimpcnpifoidaaGreatDoorLang
import Derived.LoopN
set_option linter.all false
namespace Go.Proofs.YtaimpcnpifoidaaGreatDoor
open Go Go.RowKit
inductive FV where
 | atom (v:Value)
 | agg (cs:List FV)
 | tup (vs:List FV)
 | lst (size n:Nat) (xs:List FV)
 | fp (cs:List FV)
 | bx (cs:List FV)
def FV.cells:FV->List FV
 | .agg cs=>cs
 | x=>[x]
def FV.single:FV->Bool
 | .atom v=>v.oneCell'
 | .lst _ _ _=>true
 | .fp _=>true
 | .bx _=>true
 | _=>false
inductive AV where
 | fz (x:FV)
 | agg (cs:List AV)
 | tup (vs:List AV)
 | ref (id n off:Nat)
 | row (id n:Nat)
 | lim (size n:Nat) (xs:List FV)
 | mp (id:Nat)
 | fn (f:FuncId) (cap:List AV)
 | mth (f:FuncId) (fst:List AV)
 | opt (id:Nat)
 | sdp (id n:Nat)
 | win (id n lo hi:Nat)
 | irow (id g j:Nat)
 | iref (id g j off:Nat)
 | any
def AV.cells:AV->List AV
 | .fz x=>x.cells.map .fz
 | .agg cs=>cs
 | x=>[x]
def AV.single:AV->Bool
 | .fz x=>x.single
 | .agg _=>false
 | .tup _=>false
 | .any=>false
 | _=>true
section
variable {S S':Nat->Prop} {w w':World}
inductive RF (S:Nat->Prop) (w:World):Value->FV->Prop where
 | atom {v:Value} (h:v.oneCell'=true):RF S w v (.atom v)
 | agg {cs:Array Value} {xs:List FV} (h:cs.size=xs.length) (h1:∀ x∈xs,x.single=true)
   (hr:∀ (i:Nat) (v:Value) (x:FV),cs[i]?=some v->xs[i]?=some x->RF S w v x):RF S w (.agg cs) (.agg xs)
 | tup {cs:Array Value} {xs:List FV} (h:cs.size=xs.length)
   (hr:∀ (i:Nat) (v:Value) (x:FV),cs[i]?=some v->xs[i]?=some x->RF S w v x):RF S w (.tuple cs) (.tup xs)
 | lst {A:Option Addr} {cap size n:Nat} {xs:List FV} (css:Nat->List Value) (hn:n=xs.length) (hc:n<=cap) (hm:cap<=9223372036854775807) (hs:0<size)
   (ha:∀ (i:Nat) (x:FV),xs[i]?=some x->∃ b o,A=some ⟨b,o,none⟩/\S b/\At w b (o+i*size) (css i))
   (hl:∀ (i:Nat) (x:FV),xs[i]?=some x->(css i).length=size/\x.cells.length=size/\∀ y∈x.cells,y.single=true)
   (hr:∀ (i:Nat) (x:FV) (j:Nat) (v:Value) (y:FV),xs[i]?=some x->(css i)[j]?=some v->x.cells[j]?=some y->RF S w v y):
   RF S w (.slice A n cap) (.lst size n xs)
 | fp {b o:Nat} {xs:List FV} (cs:List Value) (hS:S b) (ha:At w b o cs) (hl:cs.length=xs.length) (h0:0<xs.length) (h1:∀ x∈xs,x.single=true)
   (hr:∀ (i:Nat) (v:Value) (x:FV),cs[i]?=some v->xs[i]?=some x->RF S w v x):RF S w (.pointer (some ⟨b,o,none⟩)) (.fp xs)
 | bx {b:Nat} {e:TypeId} {xs:List FV} (cs:Array Value) (hS:S b) (ha:w.heap[b]?=some (.cells cs e (0,0))) (hl:cs.size=xs.length) (h0:0<xs.length) (h1:∀ x∈xs,x.single=true)
   (hr:∀ (i:Nat) (v:Value) (x:FV),cs[i]?=some v->xs[i]?=some x->RF S w v x):RF S w (.pointer (some ⟨b,0,none⟩)) (.bx xs)
 | bn:RF S w (.pointer none) (.bx [])
theorem RF.keep {v:Value} {x:FV} (h:RF S w v x) (hk:Same S w w'):RF S w' v x:=by
 induction h with
 | atom h=>exact .atom h
 | agg h h1 _ ih=>exact .agg h h1 ih
 | tup h _ ih=>exact .tup h ih
 | lst css hn hc hm hs ha hl _ ih=>
  exact .lst css hn hc hm hs (fun i x a=>let ⟨b,o,h1,h2,h3⟩:=ha i x a;⟨b,o,h1,h2,h3.keep h2 hk⟩) hl ih
 | fp cs hS ha hl h0 h1 _ ih=>exact .fp cs hS (ha.keep hS hk) hl h0 h1 ih
 | bx cs hS ha hl h0 h1 _ ih=>exact .bx cs hS ((hk _ hS (qbi.1 ha).1).trans ha) hl h0 h1 ih
 | bn=>exact .bn
theorem RF.mono {v:Value} {x:FV} (h:RF S w v x) (hS:∀ b,S b->S' b):RF S' w v x:=by
 induction h with
 | atom h=>exact .atom h
 | agg h h1 _ ih=>exact .agg h h1 ih
 | tup h _ ih=>exact .tup h ih
 | lst css hn hc hm hs ha hl _ ih=>
  exact .lst css hn hc hm hs (fun i x a=>let ⟨b,o,h1,h2,h3⟩:=ha i x a;⟨b,o,h1,hS b h2,h3⟩) hl ih
 | fp cs hs ha hl h0 h1 _ ih=>exact .fp cs (hS _ hs) ha hl h0 h1 ih
 | bx cs hs ha hl h0 h1 _ ih=>exact .bx cs (hS _ hs) ha hl h0 h1 ih
 | bn=>exact .bn
theorem RF.bound {v:Value} {x:FV} (h:RF S w v x):RF (fun b=>S b/\b<w.heap.size) w v x:=by
 induction h with
 | atom h=>exact .atom h
 | agg h h1 _ ih=>exact .agg h h1 ih
 | tup h _ ih=>exact .tup h ih
 | lst css hn hc hm hs ha hl _ ih=>
  refine .lst css hn hc hm hs (fun i x a=>?_) hl ih;obtain ⟨b,o,h1,h2,h3⟩:=ha i x a;have hn:=(hl i x a).1;exact ⟨b,o,h1,⟨h2,ky3 (h3 0 ((css i)[0]'(by omega)) (qc (by omega)))⟩,h3⟩
 | fp cs hs ha hl h0 h1 _ ih=>
  exact .fp cs ⟨hs,ky3 (ha 0 (cs[0]'(by omega)) (qc (by omega)))⟩ ha hl h0 h1 ih
 | bx cs hs ha hl h0 h1 _ ih=>exact .bx cs ⟨hs,(qbi.1 ha).1⟩ ha hl h0 h1 ih
 | bn=>exact .bn
theorem RF.one {v:Value} {x:FV} (h:RF S w v x) (h1:x.single=true):v.oneCell'=true:=by
 cases h with
 | atom h=>exact h
 | agg=>cases h1
 | tup=>cases h1
 | lst=>rfl
 | fp=>rfl
 | bx=>rfl
 | bn=>rfl
theorem RF.atom_eq {v u:Value} (h:RF S w v (.atom u)):v=u:=by cases h;rfl
theorem RF.undef:RF S w Go.undef (.tup []) := .tup rfl (fun i v x h=>by simp at h)
theorem RF.cells {v:Value} {x:FV} (h:RF S w v x) (h1:∀ y∈x.cells,y.single=true):
  v.cells.size=x.cells.length/\(∀ (i:Nat) (u:Value) (y:FV),v.cells[i]?=some u->x.cells[i]?=some y->RF S w u y)/\∀ u∈v.cells.toList,u.oneCell'=true:=by
 have key:v.cells.size=x.cells.length/\(∀ (i:Nat) (u:Value) (y:FV),v.cells[i]?=some u->x.cells[i]?=some y->RF S w u y):=by
  cases h with
  | agg h h1 hr=>exact ⟨h,hr⟩
  | atom h=>
   have hc:v.cells=#[v]:=(by cases v <;> first | rfl | cases h);rw [hc];exact ⟨rfl,fun i u y a b=>by cases i with | zero=>simp [FV.cells] at a b;subst a b;exact .atom h | succ i=>simp at a⟩
  | tup h hr=>cases h1 _ (qbf.2 rfl)
  | lst css hn hc hm hs ha hl hr=>exact ⟨rfl,fun i u y a b=>by cases i with | zero=>simp [FV.cells,Value.cells] at a b;subst a b;exact .lst css hn hc hm hs ha hl hr | succ i=>simp [Value.cells] at a⟩
  | fp cs hS ha hl h0 d hr=>exact ⟨rfl,fun i u y a b=>by cases i with | zero=>simp [FV.cells,Value.cells] at a b;subst a b;exact .fp cs hS ha hl h0 d hr | succ i=>simp [Value.cells] at a⟩
  | bx cs hS ha hl h0 d hr=>exact ⟨rfl,fun i u y a b=>by cases i with | zero=>simp [FV.cells,Value.cells] at a b;subst a b;exact .bx cs hS ha hl h0 d hr | succ i=>simp [Value.cells] at a⟩
  | bn=>exact ⟨rfl,fun i u y a b=>by cases i with | zero=>simp [FV.cells,Value.cells] at a b;subst a b;exact .bn | succ i=>simp [Value.cells] at a⟩
 refine ⟨key.1,key.2,fun u a=>?_⟩;obtain ⟨i,hi,rfl⟩:=qad.1 a;have c:i<v.cells.size:=by simpa using hi
 have e:i<x.cells.length:=by rw [<- key.1];exact c
 exact (key.2 i _ _ (by simp [c]) (qc e)).one (h1 _ (qv e))
structure Env where
 len:Nat->Nat
 val:Nat->Value
def kby:Value->Option Nat
 | .slice (some a) _ _=>some a.block
 | .pointer (some a)=>some a.block
 | .map (some r)=>some r
 | _=>none
def kot:Value->List Value
 | .tuple cs=>cs.toList
 | _=>[]
def Blk (v:Value) (b:Nat):Prop:=kby v=some b\/∃ u,u∈kot v/\kby u=some b
theorem Blk.of {v:Value} {b:Nat} (h:kby v=some b):Blk v b := .inl h
theorem Blk.sl {A:Option Addr} {n c b:Nat} (h:Blk (.slice A n c) b):kby (.slice A n c)=some b:=by
 rcases h with h | ⟨u,a,_⟩;exact h
 ·cases a
theorem Blk.pt {A:Option Addr} {b:Nat} (h:Blk (.pointer A) b):kby (.pointer A)=some b:=by
 rcases h with h | ⟨u,a,_⟩;exact h
 ·cases a
theorem Blk.mp {A:Option Nat} {b:Nat} (h:Blk (.map A) b):kby (.map A)=some b:=by
 rcases h with h | ⟨u,a,_⟩;exact h
 ·cases a
variable {ψ ψ':Env} {K K':Nat->Prop}
inductive RV (ψ:Env) (K:Nat->Prop) (S:Nat->Prop) (w:World):Value->AV->Prop where
 | fz {v:Value} {x:FV} (h:RF S w v x):RV ψ K S w v (.fz x)
 | agg {cs:Array Value} {xs:List AV} (h:cs.size=xs.length) (h1:∀ x∈xs,x.single=true)
   (hr:∀ (i:Nat) (v:Value) (x:AV),cs[i]?=some v->xs[i]?=some x->RV ψ K S w v x):RV ψ K S w (.agg cs) (.agg xs)
 | tup {cs:Array Value} {xs:List AV} (h:cs.size=xs.length)
   (hr:∀ (i:Nat) (v:Value) (x:AV),cs[i]?=some v->xs[i]?=some x->RV ψ K S w v x):RV ψ K S w (.tuple cs) (.tup xs)
 | ref {id n off:Nat} {v:Value} (hK:K id) (hn:n<=ψ.len id) (h1:v.oneCell'=true)
   (hv:n=ψ.len id->∃ b,kby (ψ.val id)=some b/\v = .pointer (some ⟨b,off,none⟩)):RV ψ K S w v (.ref id n off)
 | row {id n:Nat} {v:Value} (hK:K id) (hn:n<=ψ.len id) (h1:v.oneCell'=true) (hv:n=ψ.len id->v=ψ.val id):RV ψ K S w v (.row id n)
 | lim {A:Option Addr} {size n:Nat} {xs:List FV} (h:RF S w (.slice A n n) (.lst size n xs)):RV ψ K S w (.slice A n n) (.lim size n xs)
 | mp {id:Nat} {v:Value} (hK:K id) (h1:v.oneCell'=true) (hv:0=ψ.len id->v=ψ.val id):RV ψ K S w v (.mp id)
 | fn {f:FuncId} {cs:Array Value} {xs:List AV} (h:cs.size=xs.length)
   (hr:∀ (i:Nat) (v:Value) (x:AV),cs[i]?=some v->xs[i]?=some x->RV ψ K S w v x):RV ψ K S w (.func (.func f) #[] cs) (.fn f xs)
 | mth {f:FuncId} {cs:Array Value} {xs:List AV} (h:cs.size=xs.length)
   (hr:∀ (i:Nat) (v:Value) (x:AV),cs[i]?=some v->xs[i]?=some x->RV ψ K S w v x):RV ψ K S w (.func (.func f) cs #[]) (.mth f xs)
 | opt {id:Nat} {v:Value} (hK:K id) (h1:v.oneCell'=true) (hv:0=ψ.len id->v = .pointer none\/∃ b,kby (ψ.val id)=some b/\v = .pointer (some ⟨b,0,none⟩)):RV ψ K S w v (.opt id)
 | sdp {id n:Nat} {v:Value} (hK:K id) (hn:n<=ψ.len id) (h1:v.oneCell'=true) (hv:n=ψ.len id->(∃ a,v = .pointer a)/\(0<n->∃ b,kby (ψ.val id)=some b/\v = .pointer (some ⟨b,0,none⟩))):RV ψ K S w v (.sdp id n)
 | win {id n lo hi:Nat} {v:Value} (hK:K id) (hn:n<=ψ.len id) (h1:v.oneCell'=true) (hv:n=ψ.len id->lo<=hi/\hi<=n/\∃ A cap,v = .slice A (hi - lo) cap/\(lo<hi->∃ b,kby (ψ.val id)=some b/\A=some ⟨b,lo,none⟩)):RV ψ K S w v (.win id n lo hi)
 | irow {id g j:Nat} {v:Value} (hK:K id) (hn:g<=ψ.len id) (h1:v.oneCell'=true) (hv:g=ψ.len id->(kot (ψ.val id))[j]?=some v):RV ψ K S w v (.irow id g j)
 | iref {id g j off:Nat} {v:Value} (hK:K id) (hn:g<=ψ.len id) (h1:v.oneCell'=true) (hv:g=ψ.len id->∃ u b,(kot (ψ.val id))[j]?=some u/\kby u=some b/\v = .pointer (some ⟨b,off,none⟩)):RV ψ K S w v (.iref id g j off)
 | any {v:Value}:RV ψ K S w v .any
theorem RV.bound {v:Value} {a:AV} (h:RV ψ K S w v a):RV ψ K (fun b=>S b/\b<w.heap.size) w v a:=by
 induction h with
 | fz h=>exact .fz h.bound
 | agg h h1 _ ih=>exact .agg h h1 ih
 | tup h _ ih=>exact .tup h ih
 | ref hk hn h1 hv=>exact .ref hk hn h1 hv
 | row hk hn h1 hv=>exact .row hk hn h1 hv
 | lim h=>exact .lim h.bound
 | mp hk h1 hv=>exact .mp hk h1 hv
 | opt hk h1 hv=>exact .opt hk h1 hv
 | sdp hk hn h1 hv=>exact .sdp hk hn h1 hv
 | win hk hn h1 hv=>exact .win hk hn h1 hv
 | irow hk hn h1 hv=>exact .irow hk hn h1 hv
 | iref hk hn h1 hv=>exact .iref hk hn h1 hv
 | fn h _ ih=>exact .fn h ih
 | mth h _ ih=>exact .mth h ih
 | any=>exact .any
theorem RV.mono {v:Value} {a:AV} (h:RV ψ K S w v a) (hK:∀ id,K id->K' id) (hS:∀ b,S b->S' b):RV ψ K' S' w v a:=by
 induction h with
 | fz h=>exact .fz (h.mono hS)
 | agg h h1 _ ih=>exact .agg h h1 ih
 | tup h _ ih=>exact .tup h ih
 | ref hk hn h1 hv=>exact .ref (hK _ hk) hn h1 hv
 | row hk hn h1 hv=>exact .row (hK _ hk) hn h1 hv
 | lim h=>exact .lim (h.mono hS)
 | mp hk h1 hv=>exact .mp (hK _ hk) h1 hv
 | opt hk h1 hv=>exact .opt (hK _ hk) h1 hv
 | sdp hk hn h1 hv=>exact .sdp (hK _ hk) hn h1 hv
 | win hk hn h1 hv=>exact .win (hK _ hk) hn h1 hv
 | irow hk hn h1 hv=>exact .irow (hK _ hk) hn h1 hv
 | iref hk hn h1 hv=>exact .iref (hK _ hk) hn h1 hv
 | fn h _ ih=>exact .fn h ih
 | mth h _ ih=>exact .mth h ih
 | any=>exact .any
theorem RV.one {v:Value} {a:AV} (h:RV ψ K S w v a) (h1:a.single=true):v.oneCell'=true:=by
 cases h with
 | fz h=>exact h.one h1
 | agg=>cases h1
 | tup=>cases h1
 | ref _ _ h _=>exact h
 | row _ _ h _=>exact h
 | lim=>rfl
 | mp _ h _=>exact h
 | opt _ h _=>exact h
 | sdp _ _ h _=>exact h
 | win _ _ h _=>exact h
 | irow _ _ h _=>exact h
 | iref _ _ h _=>exact h
 | fn=>rfl
 | mth=>rfl
 | any=>cases h1
theorem RV.cells {v:Value} {a:AV} (h:RV ψ K S w v a) (h1:∀ y∈a.cells,y.single=true):
  v.cells.size=a.cells.length/\(∀ (i:Nat) (u:Value) (y:AV),v.cells[i]?=some u->a.cells[i]?=some y->RV ψ K S w u y)/\∀ u∈v.cells.toList,u.oneCell'=true:=by
 have one:v.oneCell'=true->a.cells=[a]->RV ψ K S w v a->v.cells.size=a.cells.length/\(∀ (i:Nat) (u:Value) (y:AV),v.cells[i]?=some u->a.cells[i]?=some y->RV ψ K S w u y):=fun ho hc hr=>by
  have hv:v.cells=#[v]:=by cases v <;> first | rfl | cases ho
  rw [hc,hv];exact ⟨rfl,fun i u y b c=>by cases i with | zero=>simp at b c;subst b c;exact hr | succ i=>simp at b⟩
 have key:v.cells.size=a.cells.length/\(∀ (i:Nat) (u:Value) (y:AV),v.cells[i]?=some u->a.cells[i]?=some y->RV ψ K S w u y):=by
  cases h with
  | @fz v x h=>
   have e:∀ y∈x.cells,y.single=true:=fun y c=>h1 (.fz y) (by simp [AV.cells,c]);obtain ⟨e1,e2,_⟩:=h.cells e;refine ⟨by simpa [AV.cells] using e1,fun i u y b c=>?_⟩;simp only [AV.cells,qp,qm] at c;obtain ⟨y',f,rfl⟩:=c;exact .fz (e2 i u y' b f)
  | agg h h1 hr=>exact ⟨h,hr⟩
  | tup h hr=>cases h1 _ (qbf.2 rfl)
  | any=>cases h1 _ (qbf.2 rfl)
  | ref hk hn ho hv=>exact one ho rfl (.ref hk hn ho hv)
  | row hk hn ho hv=>exact one ho rfl (.row hk hn ho hv)
  | lim h=>exact one rfl rfl (.lim h)
  | mp hk ho hv=>exact one ho rfl (.mp hk ho hv)
  | opt hk ho hv=>exact one ho rfl (.opt hk ho hv)
  | sdp hk hn ho hv=>exact one ho rfl (.sdp hk hn ho hv)
  | win hk hn ho hv=>exact one ho rfl (.win hk hn ho hv)
  | irow hk hn ho hv=>exact one ho rfl (.irow hk hn ho hv)
  | iref hk hn ho hv=>exact one ho rfl (.iref hk hn ho hv)
  | fn h hr=>exact one rfl rfl (.fn h hr)
  | mth h hr=>exact one rfl rfl (.mth h hr)
 refine ⟨key.1,key.2,fun u b=>?_⟩;obtain ⟨i,hi,rfl⟩:=qad.1 b;have d:i<v.cells.size:=by simpa using hi
 have e:i<a.cells.length:=by rw [<- key.1];exact d
 exact (key.2 i _ _ (by simp [d]) (qc e)).one (h1 _ (qv e))
theorem RV.inv {v:Value} {x:FV} (h:RV ψ K S w v (.fz x)):RF S w v x:=by cases h;assumption
theorem RV.atom {v u:Value} (h:RV ψ K S w v (.fz (.atom u))):v=u:=h.inv.atom_eq
def Ext (K:Nat->Prop) (ψ ψ':Env):Prop:=∀ id,K id->ψ.len id<=ψ'.len id/\(ψ.len id=ψ'.len id->ψ'.val id=ψ.val id)
theorem Ext.refl:Ext K ψ ψ:=fun _ _=>⟨qy _,fun _=>rfl⟩
theorem RV.keep {v:Value} {a:AV} (h:RV ψ K S w v a) (e:Ext K ψ ψ') (hK:∀ id,K id->K' id) (hS:∀ b,S b->S' b) (hk:Same S w w'):RV ψ' K' S' w' v a:=by
 induction h with
 | fz h=>exact .fz ((h.keep hk).mono hS)
 | agg h h1 _ ih=>exact .agg h h1 ih
 | tup h _ ih=>exact .tup h ih
 | @ref id n off v hk hn h1 hv=>
  have c:=e id hk;refine .ref (hK _ hk) (by omega) h1 fun d=>?_;have h2:n=ψ.len id:=by omega
  rw [c.2 (by omega)];exact hv h2
 | @row id n v hk hn h1 hv=>
  have c:=e id hk;refine .row (hK _ hk) (by omega) h1 fun d=>?_;have h2:n=ψ.len id:=by omega
  rw [c.2 (by omega)];exact hv h2
 | lim h=>exact .lim ((h.keep hk).mono hS)
 | @mp id v hk h1 hv=>
  have c:=e id hk;refine .mp (hK _ hk) h1 fun d=>?_;have h2:0=ψ.len id:=by omega
  rw [c.2 (by omega)];exact hv h2
 | @opt id v hk h1 hv=>
  have c:=e id hk;refine .opt (hK _ hk) h1 fun d=>?_;have h2:0=ψ.len id:=by omega
  rw [c.2 (by omega)];exact hv h2
 | @sdp id n v hk hn h1 hv=>
  have c:=e id hk;refine .sdp (hK _ hk) (by omega) h1 fun d=>?_;have h2:n=ψ.len id:=by omega
  rw [c.2 (by omega)];exact hv h2
 | @win id n lo hi v hk hn h1 hv=>
  have c:=e id hk;refine .win (hK _ hk) (by omega) h1 fun d=>?_;have h2:n=ψ.len id:=by omega
  rw [c.2 (by omega)];exact hv h2
 | @irow id g j v hk hn h1 hv=>
  have c:=e id hk;refine .irow (hK _ hk) (by omega) h1 fun d=>?_;have h2:g=ψ.len id:=by omega
  rw [c.2 (by omega)];exact hv h2
 | @iref id g j off v hk hn h1 hv=>
  have c:=e id hk;refine .iref (hK _ hk) (by omega) h1 fun d=>?_;have h2:g=ψ.len id:=by omega
  rw [c.2 (by omega)];exact hv h2
 | fn h _ ih=>exact .fn h ih
 | mth h _ ih=>exact .mth h ih
 | any=>exact .any
end
inductive AObj where
 | box (e:TypeId) (cells:List AV)
 | frow (e:TypeId) (size:Nat) (xs:List FV)
 | gho (cs:List Value) (vs:List AV)
 | was (ψ0:Env) (ids0:List Nat) (S0:Nat->Prop) (w0:World)
 | smap (kv:List (BA×FV))
 | tab (g:Nat) (ov:Value) (eo ei:TypeId) (rows:List (List Value))
 | glb (gs:List (Nat×Array Value))
 | sit (s:BA) (pos:Nat)
 | memo (Φ:FV->FV->Prop) (hint:Option (Value×Option FV))
structure St where
 n:Nat
 tmps:List (Nat×AV)
 heap:List (Nat×AObj)
 ids:List Nat
 dfr:List Deferred:=[]
def look (d:AV):List (Nat×AV)->Nat->AV
 | [],_=>d
 | (k,v)::l,t=>bif Nat.beq k t then v else look d l t
def kab:List (Nat×AObj)->Nat->Option AObj
 | [],_=>none
 | (k,v)::l,t=>bif Nat.beq k t then some v else kab l t
def St.get (st:St) (t:Nat):AV:=look .any st.tmps t
def St.put (st:St) (d:Option Nat) (v:AV):St:=match d with
 | some d=>{ st with tmps:=(d,v)::st.tmps }
 | none=>st
def kad1:Value->AV
 | .agg cs=>bif cs.toList.all (·.oneCell') then .fz (.agg (cs.toList.map .atom)) else .any
 | .tuple _ => .any
 | v => .fz (.atom v)
def St.eval (st:St):Operand->AV
 | .tmp t=>st.get t
 | .const v=>kad1 v
 | .global _ => .any
 | .func f => .fn f []
section
variable {F S0 S S':Nat->Prop} {N0:Nat} {w w':World} {ψ ψ':Env} {K K':Nat->Prop} {P:Program} {st:St} {a:Act}
theorem Nat.beq_eq_false {k t:Nat} (h:¬ k=t):Nat.beq k t=false:=by
 cases a:Nat.beq k t with
 | false=>rfl
 | true=>exact absurd (qx a) h
theorem kdt {d:AV} {l:List (Nat×AV)} {k t:Nat} {v:AV}:look d ((k,v)::l) t=if k=t then v else look d l t:=by
 simp only [look];by_cases h:k=t;subst h;simp
 ·rw [qg h,Nat.beq_eq_false h];rfl
theorem kae {l:List (Nat×AObj)} {k t:Nat} {v:AObj}:kab ((k,v)::l) t=if k=t then some v else kab l t:=by
 simp only [kab];by_cases h:k=t;subst h;simp
 ·rw [qg h,Nat.beq_eq_false h];rfl
def GlbR (w:World) (g:Nat) (vs:Array Value):Prop:=(0<vs.size/\∃ e d,w.heap[g]?=some (.cells vs e d))\/(vs=#[]/\∃ m e d,w.heap[g]?=some (.cells #[.int .i64 m] e d))
theorem GlbR.lt {g:Nat} {vs:Array Value} (h:GlbR w g vs):g<w.heap.size:=by rcases h with ⟨_,e,d,h⟩ | ⟨_,m,e,d,h⟩ <;> exact (qbi.1 h).1
theorem GlbR.keep {g:Nat} {vs:Array Value} (h:GlbR w g vs) (hk:w'.heap[g]?=w.heap[g]?):GlbR w' g vs:=by
 rcases h with ⟨h0,e,d,h⟩ | ⟨h0,m,e,d,h⟩;exact .inl ⟨h0,e,d,hk.trans h⟩
 ·exact .inr ⟨h0,m,e,d,hk.trans h⟩
theorem GlbR.tab {g:Nat} {vs:Array Value} (h:GlbR w g vs) (h0:0<vs.size):∃ e d,w.heap[g]?=some (.cells vs e d):=by
 rcases h with ⟨_,h⟩ | ⟨rfl,_⟩;exact h
 ·cases h0
def kabp (S:Nat->Prop) (w:World):Option (Value×Option FV)->List MapEntry->Prop
 | none,_=>True
 | some (k,none),l=>∀ e∈l,e.key≠k
 | some (k,some vx),l=>∃ l1 e l2,l=l1++e::l2/\(∀ x∈l1,x.key≠k)/\e.key=k/\RF S w e.val vx
def MemoR (S:Nat->Prop) (w:World) (Φ:FV->FV->Prop) (h:Option (Value×Option FV)) (l:List MapEntry):Prop:=
 (∀ e∈l,∃ kx vx,Φ kx vx/\RF S w e.key kx/\RF S w e.val vx)/\kabp S w h l
theorem MemoR.keep {Φ:FV->FV->Prop} {h:Option (Value×Option FV)} {l:List MapEntry} (m:MemoR S w Φ h l) (hS:∀ b,S b->S' b) (hk:Same S w w'):MemoR S' w' Φ h l:=by
 refine ⟨fun e a=>?_,?_⟩;obtain ⟨kx,vx,h1,h2,h3⟩:=m.1 e a;exact ⟨kx,vx,h1,(h2.keep hk).mono hS,(h3.keep hk).mono hS⟩
 ·match h,m.2 with
  | none,_=>trivial
  | some (k,none),h=>exact h
  | some (k,some vx),⟨l1,e,l2,h1,h2,h3,c⟩=>exact ⟨l1,e,l2,h1,h2,h3,(c.keep hk).mono hS⟩
def ObR (ψ:Env) (K S:Nat->Prop) (w:World) (id:Nat):AObj->Prop
 | .box e cells=>ψ.len id=0/\∃ b cs,ψ.val id = .pointer (some ⟨b,0,none⟩)/\w.heap[b]?=some (.cells cs e (0,0))/\cs.size=cells.length/\(∀ x∈cells,x.single=true) /\
   ∀ (i:Nat) (v:Value) (x:AV),cs[i]?=some v->cells[i]?=some x->RV ψ K S w v x
 | .frow e size xs=>ψ.len id=xs.length/\0<size/\∃ cs:List Value,w.ownsRow 0 e size (ψ.val id) xs.length cs/\(∀ x∈xs,x.cells.length=size/\∀ y∈x.cells,y.single=true) /\
   ∀ (i:Nat) (x:FV) (j:Nat) (v:Value) (y:FV),xs[i]?=some x->cs[i*size+j]?=some v->x.cells[j]?=some y->RF S w v y
 | .gho cs vs=>ψ.len id=0/\kby (ψ.val id)=none/\kot (ψ.val id)=[]/\∀ (i:Nat) (v:Value) (x:AV),cs[i]?=some v->vs[i]?=some x->RV ψ K S w v x
 | .was ψ0 ids0 S0 w0=>ψ.len id=0/\kby (ψ.val id)=none/\kot (ψ.val id)=[]/\Ext (·∈ids0) ψ0 ψ/\(∀ i,i∈ids0->K i)/\(∀ b,S0 b->S b)/\Same S0 w0 w
 | .smap kv=>ψ.len id=0/\∃ b es clock,ψ.val id = .map (some b)/\w.heap[b]?=some (.map es clock)/\es.size=kv.length /\
   ∀ (i:Nat) (e:MapEntry) (p:BA×FV),es[i]?=some e->kv[i]?=some p->e.key = .string p.1/\RF S w e.val p.2
 | .tab g ov eo ei rows=>ψ.len id=g/\∃ vs:List Value,ψ.val id = .tuple (ov::vs).toArray/\vs.length=rows.length/\w.ownsRow 0 eo 1 ov rows.length vs /\
   (∀ (j:Nat) (v:Value) (xs:List Value),vs[j]?=some v->rows[j]?=some xs->w.ownsRow 0 ei 1 v xs.length xs/\∀ u∈xs,u.oneCell'=true) /\
   ∀ (i j:Nat) (u v:Value) (b:Nat),(ov::vs)[i]?=some u->(ov::vs)[j]?=some v->i≠j->kby u=some b->kby v≠some b
 | .glb gs=>ψ.len id=0/\kby (ψ.val id)=none/\kot (ψ.val id)=[]/\∀ p,p∈gs->S p.1/\GlbR w p.1 p.2
 | .sit s pos=>ψ.len id=0/\∃ b,ψ.val id = .pointer (some ⟨b,0,none⟩)/\w.heap[b]?=some (.stringIter s pos)
 | .memo Φ h=>ψ.len id=0/\∃ b es clock,ψ.val id = .map (some b)/\w.heap[b]?=some (.map es clock)/\MemoR S w Φ h es.toList
theorem Ext.trans' {ids:List Nat} {K:Nat->Prop} {ψ0 ψ ψ':Env} (h:Ext (·∈ids) ψ0 ψ) (k:Ext K ψ ψ') (hs:∀ i,i∈ids->K i):Ext (·∈ids) ψ0 ψ':=fun i hi=>by obtain ⟨h1,h2⟩:=h i hi;obtain ⟨k1,k2⟩:=k i (hs i hi);exact ⟨by omega,fun e=>by rw [k2 (by omega),h2 (by omega)]⟩
theorem Same.trans' {S0 S:Nat->Prop} {w0 w w':World} (h:Same S0 w0 w) (k:Same S w w') (hs:∀ b,S0 b->S b):Same S0 w0 w':=fun b a hl=>by have h1:=h b a hl;rw [qaw hl] at h1;obtain ⟨h2,_⟩:=qbi.1 h1;rw [k b (hs b a) h2,h1,qaw hl]
theorem kqj {v:Value} {b:Nat} (h:v.ownBlock=some b):kby v=some b:=by
 unfold Value.ownBlock at h;split at h;exact h
 ·cases h
theorem kte {base e size n:Nat} {v:Value} {cs:List Value} (h:w.ownsRow base e size v n cs) (hk:∀ b,v.ownBlock=some b->w'.heap[b]?=w.heap[b]?):w'.ownsRow base e size v n cs:=by obtain ⟨h1,h2⟩:=h;refine ⟨h1,h2.imp id ?_⟩;rintro ⟨g,cap,cur,rfl,a,c,r⟩;exact ⟨g,cap,cur,rfl,a,by rw [hk g rfl];exact c,r⟩
theorem ObR.keep {id:Nat} {o:AObj} (h:ObR ψ K S w id o) (l:Ext K ψ ψ') (hK:∀ id,K id->K' id) (hS:∀ b,S b->S' b) (hk:Same S w w')
  (hid:ψ'.len id=ψ.len id/\ψ'.val id=ψ.val id) (a:∀ b,Blk (ψ.val id) b->w'.heap[b]?=w.heap[b]?):ObR ψ' K' S' w' id o:=by
 cases o with
 | box e cells=>
  obtain ⟨h0,b,cs,h1,h2,h3,d,k⟩:=h;exact ⟨by rw [hid.1,h0],b,cs,by rw [hid.2,h1],by rw [a b (.of (by rw [h1];rfl))];exact h2,h3,d,fun i v x hv f=>(k i v x hv f).keep l hK hS hk⟩
 | frow e size xs=>
  obtain ⟨h0,hs,cs,h1,h2,h3⟩:=h;refine ⟨by rw [hid.1,h0],hs,cs,?_,h2,fun i x j v y f hv q=>((h3 i x j v y f hv q).keep hk).mono hS⟩;rw [hid.2];exact kte h1 fun b c=>a b (.of (kqj c))
 | gho cs vs=>
  obtain ⟨h0,h1,hn,h3⟩:=h;exact ⟨by rw [hid.1,h0],by rw [hid.2,h1],by rw [hid.2,hn],fun i v x hv f=>(h3 i v x hv f).keep l hK hS hk⟩
 | was ψ0 ids0 S0 w0=>
  obtain ⟨h0,h1,hn,h2,h3,d,k⟩:=h;exact ⟨by rw [hid.1,h0],by rw [hid.2,h1],by rw [hid.2,hn],h2.trans' l h3,fun i hi=>hK i (h3 i hi),fun b a=>hS b (d b a),k.trans' hk d⟩
 | sit s pos=>
  obtain ⟨h0,b,h1,h2⟩:=h;exact ⟨by rw [hid.1,h0],b,by rw [hid.2,h1],by rw [a b (.of (by rw [h1];rfl))];exact h2⟩
 | glb gs=>
  obtain ⟨h0,h1,hn,h2⟩:=h;refine ⟨by rw [hid.1,h0],by rw [hid.2,h1],by rw [hid.2,hn],fun p hp=>?_⟩;obtain ⟨q1,q2⟩:=h2 p hp;exact ⟨hS _ q1,q2.keep (hk p.1 q1 q2.lt)⟩
 | memo Φ hi=>
  obtain ⟨h0,b,es,clock,h1,h2,h3⟩:=h;exact ⟨by rw [hid.1,h0],b,es,clock,by rw [hid.2,h1],by rw [a b (.of (by rw [h1];rfl))];exact h2,h3.keep hS hk⟩
 | smap kv=>
  obtain ⟨h0,b,es,clock,h1,h2,h3,d⟩:=h;exact ⟨by rw [hid.1,h0],b,es,clock,by rw [hid.2,h1],by rw [a b (.of (by rw [h1];rfl))];exact h2,h3,fun i e p m hp=>⟨(d i e p m hp).1,((d i e p m hp).2.keep hk).mono hS⟩⟩
 | tab g ov eo ei rows=>
  obtain ⟨h0,vs,h1,h2,h3,d,k⟩:=h;have n:∀ u b,u∈ov::vs->kby u=some b->Blk (ψ.val id) b:=fun u b r a=>by rw [h1];exact .inr ⟨u,by simpa [kot] using r,a⟩
  refine ⟨by rw [hid.1,h0],vs,by rw [hid.2,h1],h2,kte h3 fun b c=>a b (n ov b (qt ..) (kqj c)),fun j v xs hv f=>?_,k⟩;obtain ⟨k1,k2⟩:=d j v xs hv f;exact ⟨kte k1 fun b c=>a b (n v b (qn _ (qw hv)) (kqj c)),k2⟩
theorem k1f {e size n:Nat} {v:Value} {cs:List Value} (h:w.ownsRow 0 e size v n cs) {b:Nat} (a:kby v=some b):b<w.heap.size:=by
 have key:∀ {b:Nat} {x},w.heap[b]?=some x->b<w.heap.size:=fun {b x} h=>by
  rcases qbe b w.heap.size with c | c;exact c
  ·simp [Array.getElem?_eq_none c] at h
 rcases h.2 with ⟨hv,_⟩ | ⟨g,cap,cur,hv,_,d,_⟩;rw [hv] at a;cases a
 ·rw [hv] at a;injection a with a;subst a;exact key d
theorem ObR.lt {id:Nat} {o:AObj} (h:ObR ψ K S w id o) {b:Nat} (a:Blk (ψ.val id) b):b<w.heap.size:=by
 have key:∀ {b:Nat} {x},w.heap[b]?=some x->b<w.heap.size:=fun {b x} h=>by
  rcases qbe b w.heap.size with d | d;exact d
  ·simp [Array.getElem?_eq_none d] at h
 cases o with
 | box e cells=>
  obtain ⟨h0,b',cs,h1,h2,_⟩:=h;rw [h1] at a;have a:=a.pt;injection a with a;subst a;exact key h2
 | frow e size xs=>
  obtain ⟨h0,hs,cs,⟨_,h1⟩,_⟩:=h;rcases h1 with ⟨hv,_⟩ | ⟨g,cap,cur,hv,_,f,_⟩;rw [hv] at a;have a:=a.sl;cases a
  ·rw [hv] at a;have a:=a.sl;injection a with a;subst a;exact key f
 | gho cs vs=>
  obtain ⟨h0,h1,h2,_⟩:=h;rcases a with a | ⟨u,c,_⟩;rw [h1] at a;cases a
  ·rw [h2] at c;cases c
 | was ψ0 ids0 S0 w0=>
  obtain ⟨h0,h1,h2,_⟩:=h;rcases a with a | ⟨u,c,_⟩;rw [h1] at a;cases a
  ·rw [h2] at c;cases c
 | sit s pos=>
  obtain ⟨h0,b',h1,h2⟩:=h;rw [h1] at a;have a:=a.pt;injection a with a;subst a;exact key h2
 | glb gs=>
  obtain ⟨h0,h1,h2,_⟩:=h;rcases a with a | ⟨u,c,_⟩;rw [h1] at a;cases a
  ·rw [h2] at c;cases c
 | memo Φ hi=>
  obtain ⟨h0,b',es,clock,h1,h2,_⟩:=h;rw [h1] at a;have a:=a.mp;injection a with a;subst a;exact key h2
 | smap kv=>
  obtain ⟨h0,b',es,clock,h1,h2,_⟩:=h;rw [h1] at a;have a:=a.mp;injection a with a;subst a;exact key h2
 | tab g ov eo ei rows=>
  obtain ⟨h0,vs,h1,h2,h3,j,k⟩:=h;rw [h1] at a;rcases a with a | ⟨u,c,a⟩;cases a
  ·simp only [kot] at c;rcases qac.1 c with rfl | c;exact k1f h3 a
   ·obtain ⟨i,hi,rfl⟩:=qad.1 c;exact k1f (j i vs[i] (rows[i]'(by omega)) (qc hi) (qc (by omega))).1 a
structure Core (F S0:Nat->Prop) (N0:Nat) (heap:List (Nat×AObj)) (ids:List Nat) (ψ:Env) (S:Nat->Prop) (w:World):Prop where
 obj:∀ id o,kab heap id=some o->id∈ids/\ObR ψ (·∈ids) S w id o/\∀ b,Blk (ψ.val id) b->¬ S b/\¬ F b/\(S0 b\/N0<=b)
 inj:∀ id id' o o' b,kab heap id=some o->kab heap id'=some o'->id≠id'->Blk (ψ.val id) b->¬ Blk (ψ.val id') b
 lt:∀ b,S b->b<w.heap.size
 s0:∀ b,S b->S0 b\/N0<=b
 n0:N0<=w.heap.size
 fr:∀ b,F b->b<w.heap.size
structure Sim (F S0:Nat->Prop) (N0:Nat) (st:St) (ψ:Env) (S:Nat->Prop) (a:Act) (w:World):Prop where
 defers:a.defers=st.dfr
 size:a.tmps.size=st.n
 tmps:∀ t,RV ψ (·∈st.ids) S w (a.tmps.getD t undef) (st.get t)
 core:Core F S0 N0 st.heap st.ids ψ S w
structure Fr (F:Nat->Prop) (w w':World):Prop where
 os:w'.os=w.os
 tape:w'.tape=w.tape
 output:w'.output=w.output
 size:w.heap.size<=w'.heap.size
 block:∀ b,F b->w'.heap[b]?=w.heap[b]?
theorem Fr.refl:Fr F w w:=⟨rfl,rfl,rfl,qy _,fun _ _=>rfl⟩
theorem Fr.trans {w'':World} (h:Fr F w w') (k:Fr F w' w''):Fr F w w'':=⟨k.os.trans h.os,k.tape.trans h.tape,k.output.trans h.output,qbd h.size k.size,fun b a=>(k.block b a).trans (h.block b a)⟩
theorem Fr.of_grow (a:∀ b,F b->b<w.heap.size) (h:Grow w w'):Fr F w w':=⟨h.os,h.tape,h.output,h.size,fun b c=>h.block b (a b c)⟩
theorem Fr.drew:Fr F w w.drew:=⟨rfl,rfl,rfl,qy _,fun _ _=>rfl⟩
theorem Sim.eval_tmps {ids:List Nat} {st:St} (h:∀ t,RV ψ (·∈ids) S w (a.tmps.getD t undef) (st.get t)) (x:Operand):RV ψ (·∈ids) S w (a.eval x) (st.eval x):=by
 cases x with
 | tmp t=>exact h t
 | const v=>
  cases v with
  | agg cs=>
   simp only [St.eval,kad1,Act.eval];cases d:cs.toList.all (·.oneCell') with
   | false=>exact .any
   | true=>
    refine .fz (.agg (by simp) ?_ ?_);intro x b;simp only [qa3] at b;obtain ⟨v,hv,rfl⟩:=b;exact qs.1 d v hv
    ·intro i v x hv b;simp only [qp,qm,qay] at b;obtain ⟨u,c,rfl⟩:=b;rw [hv] at c;injection c with c;subst c;exact .atom (qs.1 d v (by rw [Array.mem_toList_iff];exact Array.mem_of_getElem? hv))
  | tuple=>exact .any
  | _=>exact .fz (.atom rfl)
 | global g=>exact .any
 | func f=>exact .fn rfl (fun i v x hv _=>by simp at hv)
theorem Sim.eval (h:Sim F S0 N0 st ψ S a w) (x:Operand):RV ψ (·∈st.ids) S w (a.eval x) (st.eval x):=Sim.eval_tmps h.tmps x
def kcx (P:Program) (o:Oper) (st:St) (c:AV) (d:List (Nat×AObj)) (ids':List Nat):Prop:=
 ∀ F S0 N0 ψ S a w,Sim F S0 N0 st ψ S a w->kis P o a w fun v w'=>∃ ψ' S',Core F S0 N0 d ids' ψ' S' w'/\RV ψ' (·∈ids') S' w' v c/\Fr F w w' /\
  Ext (·∈st.ids) ψ ψ'/\(∀ id,id∈st.ids->id∈ids')/\(∀ b,S b->S' b)/\Same S w w'
def NStep (P:Program) (o:Oper) (st:St) (c:AV):Prop:=
 ∀ ψ S a w,(∀ t,RV ψ (·∈st.ids) S w (a.tmps.getD t undef) (st.get t))->(∀ id o,kab st.heap id=some o->ObR ψ (·∈st.ids) S w id o) ->
  kis P o a w fun v w'=>Grow w w'/\RV ψ (·∈st.ids) (fun b=>S b\/w.heap.size<=b) w' v c
theorem Core.grow {heap:List (Nat×AObj)} {ids:List Nat} (h:Core F S0 N0 heap ids ψ S w) (d:Grow w w'):Core F S0 N0 heap ids ψ (fun b=>(S b\/w.heap.size<=b)/\b<w'.heap.size) w':=by
 have hk:Same S w w':=Same.of_grow d;have hS:∀ b,S b->(S b\/w.heap.size<=b)/\b<w'.heap.size:=fun b a=>⟨.inl a,qbp (h.lt b a) d.size⟩;refine ⟨fun id o ho=>?_,h.inj,fun b a=>a.2,fun b a=>?_,qbd h.n0 d.size,fun b a=>qbp (h.fr b a) d.size⟩
 ·obtain ⟨h1,h2,h3⟩:=h.obj id o ho;refine ⟨h1,h2.keep Ext.refl (fun _ h=>h) hS hk ⟨rfl,rfl⟩ fun b a=>d.block b (h2.lt a),fun b a=>⟨fun hs=>?_,(h3 b a).2⟩⟩;rcases hs.1 with hs | hs;exact (h3 b a).1 hs
  ·have:=h2.lt a;omega
 ·rcases a.1 with c | c;exact h.s0 b c
  ·exact .inr (qbd h.n0 c)
theorem NStep.step {o:Oper} {c:AV} (h:NStep P o st c):kcx P o st c st.heap st.ids:=by intro F S0 N0 ψ S a w hs;refine kw7 ?_ (h ψ S a w hs.tmps fun id o ho=>(hs.core.obj id o ho).2.1);rintro v w' ⟨d,hv⟩;exact ⟨ψ,_,hs.core.grow d,hv.bound,Fr.of_grow hs.core.fr d,Ext.refl,fun _ h=>h,fun b e=>⟨.inl e,qbp (hs.core.lt b e) d.size⟩,Same.of_grow d⟩
theorem Sim.put {st':St} {d:Option Nat} {v:Value} {c:AV} (h:Sim F S0 N0 st ψ S a w) (hn:st'.n=st.n) (ht:st'.tmps=st.tmps) (f:st'.dfr=st.dfr) (hc:Core F S0 N0 st'.heap st'.ids ψ' S' w') (hv:RV ψ' (·∈st'.ids) S' w' v c)
  (i:Ext (·∈st.ids) ψ ψ') (hK:∀ id,id∈st.ids->id∈st'.ids) (hS:∀ b,S b->S' b) (hk:Same S w w') (hd:∀ t,d=some t->t<st.n):Sim F S0 N0 (st'.put d c) ψ' S' (a.put d v) w':=by
 have base:∀ t,RV ψ' (·∈st'.ids) S' w' (a.tmps.getD t undef) (st'.get t):=fun t=>by have:=h.tmps t;unfold St.get at this ⊢;rw [ht];exact this.keep i hK hS hk
 cases d with
 | none=>exact ⟨h.defers.trans f.symm,by rw [show (st'.put none c)=st' from rfl,hn];exact h.size,base,hc⟩
 | some d=>
  refine ⟨h.defers.trans f.symm,by simp [St.put,Act.put,hn,h.size],fun t=>?_,hc⟩;have g:=hd d rfl;by_cases e:d=t;subst e;have:(a.put (some d) v).tmps.getD d undef=v:=(by simp [Act.put,h.size,g]);rw [this];simp only [St.put,St.get,kdt,qa6];exact hv
  ·have:(a.put (some d) v).tmps.getD t undef=a.tmps.getD t undef:=(by simp only [Act.put];rw [qax,Array.getElem?_setIfInBounds_ne e,<- qax]);rw [this];simp only [St.put,St.get,kdt,qg e];exact base t
def PostA (F S0:Nat->Prop) (N0:Nat) (w:World) (Q:Exit->St->Prop) (e:Exit) (a':Act) (w':World):Prop:=
 ∃ st' ψ' S',Q e st'/\Sim F S0 N0 st' ψ' S' a' w'/\Fr F w w'
def awp (P:Program) (c:Code) (st:St) (Q:Exit->St->Prop):Prop:=
 ∀ F S0 N0 ψ S a w,Sim F S0 N0 st ψ S a w->c.wp P (PostA F S0 N0 w Q) a w
def kaji (K:St->Prop) (Q:Exit->St->Prop):Exit->St->Prop
 | .normal,st=>K st
 | .outgrown,_=>False
 | e,st=>Q e st
def k1j (id:Nat) (Q:Exit->St->Prop):Exit->St->Prop
 | .exit i,st=>if i=id then Q .normal st else Q (.exit i) st
 | e,st=>Q e st
theorem kv4 {c:Code} {Q Q':Exit->St->Prop} (h:awp P c st Q) (b:∀ e st,Q e st->Q' e st):awp P c st Q':=
 fun F S0 N0 ψ S a w hs=>wp_mono (h F S0 N0 ψ S a w hs) fun e a' w' ⟨st',ψ',S',h1,h2⟩=>⟨st',ψ',S',b _ _ h1,h2⟩
theorem kahr {Q:Exit->St->Prop} (h:Q .normal st):awp P .skip st Q:=fun F S0 N0 ψ S a w hs=>wp_skip ⟨st,ψ,S,h,hs,Fr.refl⟩
theorem kagx {id:Nat} {Q:Exit->St->Prop} (h:Q (.exit id) st):awp P (.exit id) st Q:=fun F S0 N0 ψ S a w hs=>wp_exit ⟨st,ψ,S,h,hs,Fr.refl⟩
theorem kakl {Q:Exit->St->Prop} (h:Q .ret st):awp P .ret st Q:=fun F S0 N0 ψ S a w hs=>wp_ret ⟨st,ψ,S,h,hs,Fr.refl⟩
theorem PostA.pre {Q:Exit->St->Prop} {e:Exit} {a':Act} {w' w'':World} (h:Fr F w w') (k:PostA F S0 N0 w' Q e a' w''):PostA F S0 N0 w Q e a' w'':=
 let ⟨st',ψ',S',h1,h2,h3⟩:=k;⟨st',ψ',S',h1,h2,h.trans h3⟩
theorem k90 {x y:Code} {Q:Exit->St->Prop} (h:awp P x st (kaji (fun st=>awp P y st Q) Q)):awp P (.seq x y) st Q:=fun F S0 N0 ψ S a w hs=>
 wp_seq (wp_mono (h F S0 N0 ψ S a w hs) fun e a' w' ⟨st',ψ',S',h1,h2,h3⟩=>by
  cases e with
  | normal=>exact wp_mono (h1 F S0 N0 ψ' S' a' w' h2) fun e a'' w'' k=>k.pre h3
  | outgrown=>exact h1.elim
  | _=>exact ⟨st',ψ',S',h1,h2,h3⟩)
theorem k6b {c:Operand} {x y:Code} {b:Bool} {Q:Exit->St->Prop} (hc:st.eval c = .fz (.atom (.bool b))) (h:awp P (bif b then x else y) st Q):awp P (.cond c x y) st Q:=fun F S0 N0 ψ S a w hs=>by have d:=hs.eval c;rw [hc] at d;refine wp_cond (t:=b) d.atom ?_;cases b <;> exact h F S0 N0 ψ S a w hs
theorem kadv {id:Nat} {c:Code} {Q:Exit->St->Prop} (h:awp P c st (k1j id Q)):awp P (.block id c) st Q:=fun F S0 N0 ψ S a w hs=>
 wp_block (wp_mono (h F S0 N0 ψ S a w hs) fun e a' w' ⟨st',ψ',S',h1,h2,h3⟩=>by
  cases e with
  | exit i=>
   simp only [k1j] at h1;simp only [Exit.inBlock];by_cases hi:i=id;rw [qj hi] at h1 ⊢; exact ⟨st',ψ',S',h1,h2,h3⟩
   ·rw [qg hi] at h1 ⊢; exact ⟨st',ψ',S',h1,h2,h3⟩
  | _=>exact ⟨st',ψ',S',h1,h2,h3⟩)
def LeSt (st st':St):Prop:=∀ F S0 N0 ψ S a w,Sim F S0 N0 st ψ S a w->∃ ψ' S',Sim F S0 N0 st' ψ' S' a w
theorem kann {c:Code} {st':St} {Q:Exit->St->Prop} (hl:LeSt st st') (h:awp P c st' Q):awp P c st Q:=fun F S0 N0 ψ S a w hs=>by obtain ⟨ψ',S',b⟩:=hl F S0 N0 ψ S a w hs;exact h F S0 N0 ψ' S' a w b
def kaa {σ β:Type} (step:σ->Option (σ ⊕ β)):Nat->σ->Option β
 | 0,_=>none
 | n+1,s=>match step s with
  | none=>none
  | some (.inl s')=>kaa step n s'
  | some (.inr b)=>some b
def fuel:Nat:=18446744073709551616
theorem kagu {σ β:Type} {step:σ->Option (σ ⊕ β)} {body:Code} {Q:Exit->St->Prop} (stOf:σ->St) {s0:σ} {b:β} {n:Nat} (hl:kaa step n s0=some b)
  (h0:LeSt st (stOf s0)) (d:∀ s s',step s=some (.inl s')->awp P body (stOf s) fun e st=>e = .normal/\LeSt st (stOf s'))
  (c:∀ s,step s=some (.inr b)->awp P body (stOf s) fun e st=>e ≠ .normal/\e ≠ .outgrown/\Q e st):awp P (.loop body) st Q:=fun F S0 N0 ψ S a w hs=>by
 obtain ⟨ψ0,S1,f⟩:=h0 F S0 N0 ψ S a w hs;refine wp_loop_rounds n ?_;have key:∀ (n:Nat) (s:σ) (ψ:Env) (S:Nat->Prop) (a:Act) (w':World),kaa step n s=some b->Sim F S0 N0 (stOf s) ψ S a w'->Fr F w w'->Code.rounds P body (PostA F S0 N0 w Q) n a w':=by
  intro n
  induction n with
  | zero=>intro s ψ S a w' hl;cases hl
  | succ n ih=>
   intro s ψ S a w' hl hs h;rw [rounds_succ];simp only [kaa] at hl;cases hst:step s with
   | none=>rw [hst] at hl;cases hl
   | some r=>
    rw [hst] at hl;cases r with
    | inl s'=>
     refine wp_mono (d s s' hst F S0 N0 ψ S a w' hs) ?_;rintro e a' w'' ⟨st',ψ',S',⟨rfl,g⟩,h2,h3⟩;obtain ⟨ψ2,S2,i⟩:=g F S0 N0 ψ' S' a' w'' h2;exact ih s' ψ2 S2 a' w'' hl i (h.trans h3)
    | inr b'=>
     obtain rfl:=qq hl;refine wp_mono (c s hst F S0 N0 ψ S a w' hs) ?_;rintro e a' w'' ⟨st',ψ',S',⟨hn,ho,j⟩,h2,h3⟩;cases e with
     | normal=>exact absurd rfl hn
     | outgrown=>exact absurd rfl ho
     | _=>exact ⟨st',ψ',S',j,h2,h.trans h3⟩
 exact key n s0 ψ0 S1 a w hl f Fr.refl
def awpL (P:Program) (ops:Array Oper) (l:List Oper) (st:St) (Q:Exit->St->Prop):Prop:=
 ∀ F S0 N0 ψ S a w,Sim F S0 N0 st ψ S a w->wpList P ops (PostA F S0 N0 w Q) l a w
def kdi (ops:Array Oper) (st:St) (o:Oper):Option Bool:=match o.guard with
 | none=>some true
 | some (j,want)=>match (ops[j]?).bind (·.dst) with
  | some t=>match st.get t with
   | .fz (.atom (.bool b))=>some (b == want)
   | .fz (.tup _)=>some false
   | _=>none
  | none=>none
theorem kz3 {ops:Array Oper} {a:Act} {t j:Nat} {want:Bool} {xs:List FV} (hv:RF S w (a.tmps.getD t undef) (.tup xs)) (ht:(ops[j]?).bind (·.dst)=some t):(yielded ops a.tmps j == some want)=false:=by
 rw [qax] at hv;simp only [yielded,ht,qa];cases b:a.tmps[t]? with
 | none=>rfl
 | some u=>
  rw [b] at hv;simp only [qa2] at hv;cases hv with
  | tup=>rfl
theorem kks {ops:Array Oper} {o:Oper} {g:Bool} (hs:Sim F S0 N0 st ψ S a w) (h:kdi ops st o=some g):Region.wanted o (yielded ops a.tmps)=g:=by
 unfold kdi at h;unfold Region.wanted;split at h;rename_i e;rw [e];injection h
 ·rename_i j want e;rw [e];split at h
  ·rename_i t ht;have hv:=hs.tmps t;split at h
   ·rename_i b f;rw [f] at hv;injection h with h;subst h;have c:a.tmps.getD t undef = .bool b:=hv.atom;rw [qax] at c;have d:a.tmps[t]?=some (.bool b):=by
     cases d:a.tmps[t]? with
     | none=>rw [d] at c;cases c
     | some u=>rw [d] at c;simp only [qa2] at c;rw [c]
    simp only [yielded,ht,qa,d];cases b <;> cases want <;> rfl
   rename_i xs f;rw [f] at hv;injection h with h;subst h;exact kz3 hv.inv ht
   ·cases h
  ·cases h
theorem kgh {ops:Array Oper} {Q Q':Exit->Act->World->Prop} (b:∀ e a w,Q e a w->Q' e a w):∀ (l:List Oper) (a:Act) (w:World),wpList P ops Q l a w->wpList P ops Q' l a w
 | [],a,w,h=>b _ _ _ h
 | o::l,a,w,h=>by
  unfold wpList at h ⊢;split at h
  ·rename_i i;rw [qj i];rcases h with h | ⟨h1,a',w',h2⟩
   ·refine .inl ?_;unfold Oper.wp at h ⊢;generalize (execOp a.eval o).run P w=r at h ⊢;cases r with
    | ok n w'=>
     cases n <;> simp only [Oper.upon] at h ⊢
     case value v=>exact kgh b l _ _ h
     case skip=>exact kgh b l _ _ h
     case defer d=>exact kgh b l _ _ h
     case enter f args=>
      refine h.mono fun e w'' g=>?_;cases e with
      | returned v=>exact kgh b l _ _ g
      | panicked c=>exact b _ _ _ g
      | outgrown=>exact let ⟨a',w',h2⟩:=g;⟨a',w',b _ _ _ h2⟩
     case row r args=>exact h.mono fun v w'' g=>kgh b l _ _ g
    | halt x w'=>
     cases x <;> simp only [Oper.upon] at h ⊢;exact b _ _ _ h
   ·exact .inr ⟨h1,a',w',b _ _ _ h2⟩
  ·rename_i i;rw [qg i];exact kgh b l _ _ h
theorem l_nil {ops:Array Oper} {Q:Exit->St->Prop} (h:Q .normal st):awpL P ops [] st Q:=fun F S0 N0 ψ S a w hs=>⟨st,ψ,S,h,hs,Fr.refl⟩
theorem k17 {ops:Array Oper} {o:Oper} {l:List Oper} {c:AV} {b:List (Nat×AObj)} {ids':List Nat} {Q:Exit->St->Prop} (h:kcx P o st c b ids') (d:kdi ops st o=some true) (hd:∀ t,o.dst=some t->t<st.n)
  (hn:awpL P ops l (({ st with heap:=b,ids:=ids' }:St).put o.dst c) Q):awpL P ops (o::l) st Q:=fun F S0 N0 ψ S a w hs=>by
 unfold wpList;rw [kks hs d];refine .inl (kmi ?_ (h F S0 N0 ψ S a w hs));rintro v w' ⟨ψ',S',h1,h2,h3,f,g,i,j⟩;exact kgh (fun e a' w'' k=>k.pre h3) _ _ _ (hn F S0 N0 ψ' S' _ w' (hs.put (st':={ st with heap:=b,ids:=ids' }) rfl rfl rfl h1 h2 f g i j hd))
theorem kana {ops:Array Oper} {o:Oper} {l:List Oper} {Q:Exit->St->Prop} (b:kdi ops st o=some false) (hd:∀ t,o.dst=some t->t<st.n) (hn:awpL P ops l (st.put o.dst (.fz (.tup []))) Q):awpL P ops (o::l) st Q:=fun F S0 N0 ψ S a w hs=>by unfold wpList;rw [kks hs b];exact hn F S0 N0 ψ S _ w (hs.put (st':=st) rfl rfl rfl hs.core (.fz RF.undef) Ext.refl (fun _ h=>h) (fun _ h=>h) (fun _ _ _=>rfl) hd)
theorem l_le {ops:Array Oper} {l:List Oper} {st':St} {Q:Exit->St->Prop} (hl:LeSt st st') (h:awpL P ops l st' Q):awpL P ops l st Q:=fun F S0 N0 ψ S a w hs=>by obtain ⟨ψ',S',b⟩:=hl F S0 N0 ψ S a w hs;exact h F S0 N0 ψ' S' a w b
theorem kacd {id:Nat} {ops:Array Oper} {Q:Exit->St->Prop} (h:awpL P ops ops.toList st Q):awp P (.region id ops false) st Q:=fun F S0 N0 ψ S a w hs=>wp_region_list (h F S0 N0 ψ S a w hs)
end
end Go.Proofs.YtaimpcnpifoidaaGreatDoor
