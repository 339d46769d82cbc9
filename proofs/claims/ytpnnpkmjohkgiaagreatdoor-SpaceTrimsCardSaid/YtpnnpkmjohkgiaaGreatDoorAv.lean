import Derived.Test.YtpnnpkmjohkgiaaGreatDoorMem
set_option linter.all false
namespace Go.Proofs.YtpnnpkmjohkgiaaGreatDoor
open Go Go.RowKit
inductive FV where
 | atom (v:Value)
 | agg (cs:List FV)
 | tup (vs:List FV)
 | lst (size n:Nat) (xs:List FV)
 | fp (cs:List FV)
 | bx (cs:List FV)
def FV.cells:FV->List FV
 | .agg cs=>cs
 | x=>[x]
def FV.single:FV->Bool
 | .atom v=>v.oneCell'
 | .lst _ _ _=>true
 | .fp _=>true
 | .bx _=>true
 | _=>false
inductive AV where
 | fz (x:FV)
 | agg (cs:List AV)
 | tup (vs:List AV)
 | ref (id n off:Nat)
 | row (id n:Nat)
 | lim (size n:Nat) (xs:List FV)
 | mp (id:Nat)
 | fn (f:FuncId) (cap:List AV)
 | mth (f:FuncId) (fst:List AV)
 | opt (id:Nat)
 | sdp (id n:Nat)
 | win (id n lo hi:Nat)
 | irow (id g j:Nat)
 | iref (id g j off:Nat)
 | bsl (id g off len:Nat) (cap:Option Nat)
 | any
def AV.cells:AV->List AV
 | .fz x=>x.cells.map .fz
 | .agg cs=>cs
 | x=>[x]
def AV.single:AV->Bool
 | .fz x=>x.single
 | .agg _=>false
 | .tup _=>false
 | .any=>false
 | _=>true
section
variable {S S':Nat->Prop} {w w':World}
inductive RF (S:Nat->Prop) (w:World):Value->FV->Prop where
 | atom {v:Value} (h:v.oneCell'=true):RF S w v (.atom v)
 | agg {cs:Array Value} {xs:List FV} (h:cs.size=xs.length) (h1:∀ x∈xs,x.single=true)
   (hr:∀ (i:Nat) (v:Value) (x:FV),cs[i]?=some v->xs[i]?=some x->RF S w v x):RF S w (.agg cs) (.agg xs)
 | tup {cs:Array Value} {xs:List FV} (h:cs.size=xs.length)
   (hr:∀ (i:Nat) (v:Value) (x:FV),cs[i]?=some v->xs[i]?=some x->RF S w v x):RF S w (.tuple cs) (.tup xs)
 | lst {A:Option Addr} {cap size n:Nat} {xs:List FV} (css:Nat->List Value) (hn:n=xs.length) (hc:n<=cap) (hm:cap<=9223372036854775807) (hs:0<size)
   (ha:∀ (i:Nat) (x:FV),xs[i]?=some x->∃ b o,A=some ⟨b,o,none⟩/\S b/\At w b (o+i*size) (css i))
   (hl:∀ (i:Nat) (x:FV),xs[i]?=some x->(css i).length=size/\x.cells.length=size/\∀ y∈x.cells,y.single=true)
   (hr:∀ (i:Nat) (x:FV) (j:Nat) (v:Value) (y:FV),xs[i]?=some x->(css i)[j]?=some v->x.cells[j]?=some y->RF S w v y):
   RF S w (.slice A n cap) (.lst size n xs)
 | fp {b o:Nat} {xs:List FV} (cs:List Value) (hS:S b) (ha:At w b o cs) (hl:cs.length=xs.length) (h0:0<xs.length) (h1:∀ x∈xs,x.single=true)
   (hr:∀ (i:Nat) (v:Value) (x:FV),cs[i]?=some v->xs[i]?=some x->RF S w v x):RF S w (.pointer (some ⟨b,o,none⟩)) (.fp xs)
 | bx {b:Nat} {e:TypeId} {xs:List FV} (cs:Array Value) (hS:S b) (ha:w.heap[b]?=some (.cells cs e (0,0))) (hl:cs.size=xs.length) (h0:0<xs.length) (h1:∀ x∈xs,x.single=true)
   (hr:∀ (i:Nat) (v:Value) (x:FV),cs[i]?=some v->xs[i]?=some x->RF S w v x):RF S w (.pointer (some ⟨b,0,none⟩)) (.bx xs)
 | bn:RF S w (.pointer none) (.bx [])
theorem RF.keep {v:Value} {x:FV} (h:RF S w v x) (hk:Same S w w'):RF S w' v x:=by
 induction h with
 | atom h=>exact .atom h
 | agg h h1 _ ih=>exact .agg h h1 ih
 | tup h _ ih=>exact .tup h ih
 | lst css hn hc hm hs ha hl _ ih=>
  exact .lst css hn hc hm hs (fun i x c=>let ⟨b,o,h1,a,d⟩:=ha i x c;⟨b,o,h1,a,d.keep a hk⟩) hl ih
 | fp cs hS ha hl h0 h1 _ ih=>exact .fp cs hS (ha.keep hS hk) hl h0 h1 ih
 | bx cs hS ha hl h0 h1 _ ih=>exact .bx cs hS ((hk _ hS (qax.1 ha).1).trans ha) hl h0 h1 ih
 | bn=>exact .bn
theorem RF.mono {v:Value} {x:FV} (h:RF S w v x) (hS:∀ b,S b->S' b):RF S' w v x:=by
 induction h with
 | atom h=>exact .atom h
 | agg h h1 _ ih=>exact .agg h h1 ih
 | tup h _ ih=>exact .tup h ih
 | lst css hn hc hm hs ha hl _ ih=>
  exact .lst css hn hc hm hs (fun i x a=>let ⟨b,o,h1,c,d⟩:=ha i x a;⟨b,o,h1,hS b c,d⟩) hl ih
 | fp cs hs ha hl h0 h1 _ ih=>exact .fp cs (hS _ hs) ha hl h0 h1 ih
 | bx cs hs ha hl h0 h1 _ ih=>exact .bx cs (hS _ hs) ha hl h0 h1 ih
 | bn=>exact .bn
theorem RF.bound {v:Value} {x:FV} (h:RF S w v x):RF (fun b=>S b/\b<w.heap.size) w v x:=by
 induction h with
 | atom h=>exact .atom h
 | agg h h1 _ ih=>exact .agg h h1 ih
 | tup h _ ih=>exact .tup h ih
 | lst css hn hc hm hs ha hl _ ih=>
  refine .lst css hn hc hm hs (fun i x a=>?_) hl ih;obtain ⟨b,o,h1,d,c⟩:=ha i x a;have hn:=(hl i x a).1;exact ⟨b,o,h1,⟨d,km8 (c 0 ((css i)[0]'(by omega)) (qa (by omega)))⟩,c⟩
 | fp cs hs ha hl h0 h1 _ ih=>
  exact .fp cs ⟨hs,km8 (ha 0 (cs[0]'(by omega)) (qa (by omega)))⟩ ha hl h0 h1 ih
 | bx cs hs ha hl h0 h1 _ ih=>exact .bx cs ⟨hs,(qax.1 ha).1⟩ ha hl h0 h1 ih
 | bn=>exact .bn
theorem RF.one {v:Value} {x:FV} (h:RF S w v x) (h1:x.single=true):v.oneCell'=true:=by
 cases h with
 | atom h=>exact h
 | agg=>cases h1
 | tup=>cases h1
 | lst=>rfl
 | fp=>rfl
 | bx=>rfl
 | bn=>rfl
theorem RF.atom_eq {v u:Value} (h:RF S w v (.atom u)):v=u:=by cases h;rfl
theorem RF.undef:RF S w Go.undef (.tup []) := .tup rfl (fun i v x h=>by simp at h)
theorem RF.cells {v:Value} {x:FV} (h:RF S w v x) (h1:∀ y∈x.cells,y.single=true):
  v.cells.size=x.cells.length/\(∀ (i:Nat) (u:Value) (y:FV),v.cells[i]?=some u->x.cells[i]?=some y->RF S w u y)/\∀ u∈v.cells.toList,u.oneCell'=true:=by
 have key:v.cells.size=x.cells.length/\(∀ (i:Nat) (u:Value) (y:FV),v.cells[i]?=some u->x.cells[i]?=some y->RF S w u y):=by
  cases h with
  | agg h h1 hr=>exact ⟨h,hr⟩
  | atom h=>
   have hc:v.cells=#[v]:=by cases v <;> first | rfl | cases h
   rw [hc];exact ⟨rfl,fun i u y a hy=>by cases i with | zero=>simp [FV.cells] at a hy;subst a hy;exact .atom h | succ i=>simp at a⟩
  | tup h hr=>cases h1 _ (qao.2 rfl)
  | lst css hn hc hm hs ha hl hr=>exact ⟨rfl,fun i u y a hy=>by cases i with | zero=>simp [FV.cells,Value.cells] at a hy;subst a hy;exact .lst css hn hc hm hs ha hl hr | succ i=>simp [Value.cells] at a⟩
  | fp cs hS ha hl h0 c hr=>exact ⟨rfl,fun i u y a hy=>by cases i with | zero=>simp [FV.cells,Value.cells] at a hy;subst a hy;exact .fp cs hS ha hl h0 c hr | succ i=>simp [Value.cells] at a⟩
  | bx cs hS ha hl h0 c hr=>exact ⟨rfl,fun i u y a hy=>by cases i with | zero=>simp [FV.cells,Value.cells] at a hy;subst a hy;exact .bx cs hS ha hl h0 c hr | succ i=>simp [Value.cells] at a⟩
  | bn=>exact ⟨rfl,fun i u y a hy=>by cases i with | zero=>simp [FV.cells,Value.cells] at a hy;subst a hy;exact .bn | succ i=>simp [Value.cells] at a⟩
 refine ⟨key.1,key.2,fun u a=>?_⟩;obtain ⟨i,hi,rfl⟩:=qak.1 a;have b:i<v.cells.size:=by simpa using hi
 have d:i<x.cells.length:=by rw [<- key.1];exact b
 exact (key.2 i _ _ (by simp [b]) (qa d)).one (h1 _ (qo d))
structure Env where
 len:Nat->Nat
 val:Nat->Value
def kav:Value->Option Nat
 | .slice (some a) _ _=>some a.block
 | .pointer (some a)=>some a.block
 | .map (some r)=>some r
 | _=>none
def kfh:Value->List Value
 | .tuple cs=>cs.toList
 | _=>[]
def Blk (v:Value) (b:Nat):Prop:=kav v=some b\/∃ u,u∈kfh v/\kav u=some b
theorem Blk.of {v:Value} {b:Nat} (h:kav v=some b):Blk v b := .inl h
theorem Blk.sl {A:Option Addr} {n c b:Nat} (h:Blk (.slice A n c) b):kav (.slice A n c)=some b:=by
 rcases h with h | ⟨u,a,_⟩;exact h
 ·cases a
theorem Blk.pt {A:Option Addr} {b:Nat} (h:Blk (.pointer A) b):kav (.pointer A)=some b:=by
 rcases h with h | ⟨u,a,_⟩;exact h
 ·cases a
theorem Blk.mp {A:Option Nat} {b:Nat} (h:Blk (.map A) b):kav (.map A)=some b:=by
 rcases h with h | ⟨u,a,_⟩;exact h
 ·cases a
variable {ψ ψ':Env} {K K':Nat->Prop}
def capOf:Value->Nat
 | .slice _ _ c=>c
 | _=>0
def CapR (u:Value) (off c:Nat):Option Nat->Prop
 | some k=>c=k
 | none=>off=0/\c=capOf u
def BslR (u:Value) (off len:Nat) (cap:Option Nat) (v:Value):Prop:=
 ∃ b c,kav u=some b/\v = .slice (some ⟨b,off,none⟩) len c/\len<=c/\c<=9223372036854775807/\CapR u off c cap
inductive RV (ψ:Env) (K:Nat->Prop) (S:Nat->Prop) (w:World):Value->AV->Prop where
 | fz {v:Value} {x:FV} (h:RF S w v x):RV ψ K S w v (.fz x)
 | agg {cs:Array Value} {xs:List AV} (h:cs.size=xs.length) (h1:∀ x∈xs,x.single=true)
   (hr:∀ (i:Nat) (v:Value) (x:AV),cs[i]?=some v->xs[i]?=some x->RV ψ K S w v x):RV ψ K S w (.agg cs) (.agg xs)
 | tup {cs:Array Value} {xs:List AV} (h:cs.size=xs.length)
   (hr:∀ (i:Nat) (v:Value) (x:AV),cs[i]?=some v->xs[i]?=some x->RV ψ K S w v x):RV ψ K S w (.tuple cs) (.tup xs)
 | ref {id n off:Nat} {v:Value} (hK:K id) (hn:n<=ψ.len id) (h1:v.oneCell'=true)
   (hv:n=ψ.len id->∃ b,kav (ψ.val id)=some b/\v = .pointer (some ⟨b,off,none⟩)):RV ψ K S w v (.ref id n off)
 | row {id n:Nat} {v:Value} (hK:K id) (hn:n<=ψ.len id) (h1:v.oneCell'=true) (hv:n=ψ.len id->v=ψ.val id):RV ψ K S w v (.row id n)
 | lim {A:Option Addr} {size n:Nat} {xs:List FV} (h:RF S w (.slice A n n) (.lst size n xs)):RV ψ K S w (.slice A n n) (.lim size n xs)
 | mp {id:Nat} {v:Value} (hK:K id) (h1:v.oneCell'=true) (hv:0=ψ.len id->v=ψ.val id):RV ψ K S w v (.mp id)
 | fn {f:FuncId} {cs:Array Value} {xs:List AV} (h:cs.size=xs.length)
   (hr:∀ (i:Nat) (v:Value) (x:AV),cs[i]?=some v->xs[i]?=some x->RV ψ K S w v x):RV ψ K S w (.func (.func f) #[] cs) (.fn f xs)
 | mth {f:FuncId} {cs:Array Value} {xs:List AV} (h:cs.size=xs.length)
   (hr:∀ (i:Nat) (v:Value) (x:AV),cs[i]?=some v->xs[i]?=some x->RV ψ K S w v x):RV ψ K S w (.func (.func f) cs #[]) (.mth f xs)
 | opt {id:Nat} {v:Value} (hK:K id) (h1:v.oneCell'=true) (hv:0=ψ.len id->v = .pointer none\/∃ b,kav (ψ.val id)=some b/\v = .pointer (some ⟨b,0,none⟩)):RV ψ K S w v (.opt id)
 | sdp {id n:Nat} {v:Value} (hK:K id) (hn:n<=ψ.len id) (h1:v.oneCell'=true) (hv:n=ψ.len id->(∃ a,v = .pointer a)/\(0<n->∃ b,kav (ψ.val id)=some b/\v = .pointer (some ⟨b,0,none⟩))):RV ψ K S w v (.sdp id n)
 | win {id n lo hi:Nat} {v:Value} (hK:K id) (hn:n<=ψ.len id) (h1:v.oneCell'=true) (hv:n=ψ.len id->lo<=hi/\hi<=n/\∃ A cap,v = .slice A (hi - lo) cap/\(lo<hi->∃ b,kav (ψ.val id)=some b/\A=some ⟨b,lo,none⟩)):RV ψ K S w v (.win id n lo hi)
 | irow {id g j:Nat} {v:Value} (hK:K id) (hn:g<=ψ.len id) (h1:v.oneCell'=true) (hv:g=ψ.len id->(kfh (ψ.val id))[j]?=some v):RV ψ K S w v (.irow id g j)
 | iref {id g j off:Nat} {v:Value} (hK:K id) (hn:g<=ψ.len id) (h1:v.oneCell'=true) (hv:g=ψ.len id->∃ u b,(kfh (ψ.val id))[j]?=some u/\kav u=some b/\v = .pointer (some ⟨b,off,none⟩)):RV ψ K S w v (.iref id g j off)
 | bsl {id g off len:Nat} {cap:Option Nat} {v:Value} (hK:K id) (hn:g<=ψ.len id) (h1:v.oneCell'=true) (hv:g=ψ.len id->BslR (ψ.val id) off len cap v):RV ψ K S w v (.bsl id g off len cap)
 | any {v:Value}:RV ψ K S w v .any
theorem RV.bound {v:Value} {a:AV} (h:RV ψ K S w v a):RV ψ K (fun b=>S b/\b<w.heap.size) w v a:=by
 induction h with
 | fz h=>exact .fz h.bound
 | agg h h1 _ ih=>exact .agg h h1 ih
 | tup h _ ih=>exact .tup h ih
 | ref hk hn h1 hv=>exact .ref hk hn h1 hv
 | row hk hn h1 hv=>exact .row hk hn h1 hv
 | lim h=>exact .lim h.bound
 | mp hk h1 hv=>exact .mp hk h1 hv
 | opt hk h1 hv=>exact .opt hk h1 hv
 | sdp hk hn h1 hv=>exact .sdp hk hn h1 hv
 | win hk hn h1 hv=>exact .win hk hn h1 hv
 | irow hk hn h1 hv=>exact .irow hk hn h1 hv
 | iref hk hn h1 hv=>exact .iref hk hn h1 hv
 | bsl hk hn h1 hv=>exact .bsl hk hn h1 hv
 | fn h _ ih=>exact .fn h ih
 | mth h _ ih=>exact .mth h ih
 | any=>exact .any
theorem RV.mono {v:Value} {a:AV} (h:RV ψ K S w v a) (hK:∀ id,K id->K' id) (hS:∀ b,S b->S' b):RV ψ K' S' w v a:=by
 induction h with
 | fz h=>exact .fz (h.mono hS)
 | agg h h1 _ ih=>exact .agg h h1 ih
 | tup h _ ih=>exact .tup h ih
 | ref hk hn h1 hv=>exact .ref (hK _ hk) hn h1 hv
 | row hk hn h1 hv=>exact .row (hK _ hk) hn h1 hv
 | lim h=>exact .lim (h.mono hS)
 | mp hk h1 hv=>exact .mp (hK _ hk) h1 hv
 | opt hk h1 hv=>exact .opt (hK _ hk) h1 hv
 | sdp hk hn h1 hv=>exact .sdp (hK _ hk) hn h1 hv
 | win hk hn h1 hv=>exact .win (hK _ hk) hn h1 hv
 | irow hk hn h1 hv=>exact .irow (hK _ hk) hn h1 hv
 | iref hk hn h1 hv=>exact .iref (hK _ hk) hn h1 hv
 | bsl hk hn h1 hv=>exact .bsl (hK _ hk) hn h1 hv
 | fn h _ ih=>exact .fn h ih
 | mth h _ ih=>exact .mth h ih
 | any=>exact .any
theorem RV.one {v:Value} {a:AV} (h:RV ψ K S w v a) (h1:a.single=true):v.oneCell'=true:=by
 cases h with
 | fz h=>exact h.one h1
 | agg=>cases h1
 | tup=>cases h1
 | ref _ _ h _=>exact h
 | row _ _ h _=>exact h
 | lim=>rfl
 | mp _ h _=>exact h
 | opt _ h _=>exact h
 | sdp _ _ h _=>exact h
 | win _ _ h _=>exact h
 | irow _ _ h _=>exact h
 | iref _ _ h _=>exact h
 | bsl _ _ h _=>exact h
 | fn=>rfl
 | mth=>rfl
 | any=>cases h1
theorem RV.cells {v:Value} {a:AV} (h:RV ψ K S w v a) (h1:∀ y∈a.cells,y.single=true):
  v.cells.size=a.cells.length/\(∀ (i:Nat) (u:Value) (y:AV),v.cells[i]?=some u->a.cells[i]?=some y->RV ψ K S w u y)/\∀ u∈v.cells.toList,u.oneCell'=true:=by
 have one:v.oneCell'=true->a.cells=[a]->RV ψ K S w v a->v.cells.size=a.cells.length/\(∀ (i:Nat) (u:Value) (y:AV),v.cells[i]?=some u->a.cells[i]?=some y->RV ψ K S w u y):=fun ho hc hr=>by
  have hv:v.cells=#[v]:=by cases v <;> first | rfl | cases ho
  rw [hc,hv];exact ⟨rfl,fun i u y b hy=>by cases i with | zero=>simp at b hy;subst b hy;exact hr | succ i=>simp at b⟩
 have key:v.cells.size=a.cells.length/\(∀ (i:Nat) (u:Value) (y:AV),v.cells[i]?=some u->a.cells[i]?=some y->RV ψ K S w u y):=by
  cases h with
  | @fz v x h=>
   have d:∀ y∈x.cells,y.single=true:=fun y hy=>h1 (.fz y) (by simp [AV.cells,hy]);obtain ⟨e1,e2,_⟩:=h.cells d;refine ⟨by simpa [AV.cells] using e1,fun i u y b hy=>?_⟩;simp only [AV.cells,qr,qp] at hy;obtain ⟨y',e,rfl⟩:=hy;exact .fz (e2 i u y' b e)
  | agg h h1 hr=>exact ⟨h,hr⟩
  | tup h hr=>cases h1 _ (qao.2 rfl)
  | any=>cases h1 _ (qao.2 rfl)
  | ref hk hn ho hv=>exact one ho rfl (.ref hk hn ho hv)
  | row hk hn ho hv=>exact one ho rfl (.row hk hn ho hv)
  | lim h=>exact one rfl rfl (.lim h)
  | mp hk ho hv=>exact one ho rfl (.mp hk ho hv)
  | opt hk ho hv=>exact one ho rfl (.opt hk ho hv)
  | sdp hk hn ho hv=>exact one ho rfl (.sdp hk hn ho hv)
  | win hk hn ho hv=>exact one ho rfl (.win hk hn ho hv)
  | irow hk hn ho hv=>exact one ho rfl (.irow hk hn ho hv)
  | iref hk hn ho hv=>exact one ho rfl (.iref hk hn ho hv)
  | bsl hk hn ho hv=>exact one ho rfl (.bsl hk hn ho hv)
  | fn h hr=>exact one rfl rfl (.fn h hr)
  | mth h hr=>exact one rfl rfl (.mth h hr)
 refine ⟨key.1,key.2,fun u b=>?_⟩;obtain ⟨i,hi,rfl⟩:=qak.1 b;have c:i<v.cells.size:=by simpa using hi
 have d:i<a.cells.length:=by rw [<- key.1];exact c
 exact (key.2 i _ _ (by simp [c]) (qa d)).one (h1 _ (qo d))
theorem RV.inv {v:Value} {x:FV} (h:RV ψ K S w v (.fz x)):RF S w v x:=by cases h;assumption
theorem RV.atom {v u:Value} (h:RV ψ K S w v (.fz (.atom u))):v=u:=h.inv.atom_eq
def Ext (K:Nat->Prop) (ψ ψ':Env):Prop:=∀ id,K id->ψ.len id<=ψ'.len id/\(ψ.len id=ψ'.len id->ψ'.val id=ψ.val id)
theorem Ext.refl:Ext K ψ ψ:=fun _ _=>⟨qt _,fun _=>rfl⟩
theorem RV.keep {v:Value} {a:AV} (h:RV ψ K S w v a) (f:Ext K ψ ψ') (hK:∀ id,K id->K' id) (hS:∀ b,S b->S' b) (hk:Same S w w'):RV ψ' K' S' w' v a:=by
 induction h with
 | fz h=>exact .fz ((h.keep hk).mono hS)
 | agg h h1 _ ih=>exact .agg h h1 ih
 | tup h _ ih=>exact .tup h ih
 | @ref id n off v hk hn h1 hv=>
  have c:=f id hk;refine .ref (hK _ hk) (by omega) h1 fun d=>?_;have e:n=ψ.len id:=by omega
  rw [c.2 (by omega)];exact hv e
 | @row id n v hk hn h1 hv=>
  have c:=f id hk;refine .row (hK _ hk) (by omega) h1 fun d=>?_;have e:n=ψ.len id:=by omega
  rw [c.2 (by omega)];exact hv e
 | lim h=>exact .lim ((h.keep hk).mono hS)
 | @mp id v hk h1 hv=>
  have c:=f id hk;refine .mp (hK _ hk) h1 fun d=>?_;have e:0=ψ.len id:=by omega
  rw [c.2 (by omega)];exact hv e
 | @opt id v hk h1 hv=>
  have c:=f id hk;refine .opt (hK _ hk) h1 fun d=>?_;have e:0=ψ.len id:=by omega
  rw [c.2 (by omega)];exact hv e
 | @sdp id n v hk hn h1 hv=>
  have c:=f id hk;refine .sdp (hK _ hk) (by omega) h1 fun d=>?_;have e:n=ψ.len id:=by omega
  rw [c.2 (by omega)];exact hv e
 | @win id n lo hi v hk hn h1 hv=>
  have c:=f id hk;refine .win (hK _ hk) (by omega) h1 fun d=>?_;have e:n=ψ.len id:=by omega
  rw [c.2 (by omega)];exact hv e
 | @irow id g j v hk hn h1 hv=>
  have c:=f id hk;refine .irow (hK _ hk) (by omega) h1 fun d=>?_;have e:g=ψ.len id:=by omega
  rw [c.2 (by omega)];exact hv e
 | @iref id g j off v hk hn h1 hv=>
  have c:=f id hk;refine .iref (hK _ hk) (by omega) h1 fun d=>?_;have e:g=ψ.len id:=by omega
  rw [c.2 (by omega)];exact hv e
 | @bsl id g off len cap v hk hn h1 hv=>
  have c:=f id hk;refine .bsl (hK _ hk) (by omega) h1 fun d=>?_;have e:g=ψ.len id:=by omega
  rw [c.2 (by omega)];exact hv e
 | fn h _ ih=>exact .fn h ih
 | mth h _ ih=>exact .mth h ih
 | any=>exact .any
end
end Go.Proofs.YtpnnpkmjohkgiaaGreatDoor
