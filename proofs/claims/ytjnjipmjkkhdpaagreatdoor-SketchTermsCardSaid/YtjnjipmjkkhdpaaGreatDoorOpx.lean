import Derived.Test.YtjnjipmjkkhdpaaGreatDoorSim
import Derived.Laws.CopyRow
import Derived.Laws.Rows
import Derived.Great.FillDense
set_option linter.all false
set_option linter.unusedSectionVars false
namespace Go.Proofs.YtjnjipmjkkhdpaaGreatDoor
open Go Go.RowKit
variable [Dr]
inductive TK where
  | bool
  | int (k:IntKind)
  | str
  | ptr (e:TypeId)
  | slice (e:TypeId)
  | map (k e:TypeId)
  | fn
  | ifc
  | arr (n:Nat) (e:TypeId)
  | st (fs:List (TypeId×Nat))
structure TD where
  size:Nat
  bytes:Nat
  kind:TK
  zero:List Value
def TK.agg:TK->Bool
  | .arr _ _=>true
  | .st _=>true
  | _=>false
def ker:TypeDesc->TK->Prop
  | .bool, .bool=>True
  | .int k, .int k'=>k=k'
  | .string, .str=>True
  | .pointer e, .ptr e'=>e=e'
  | .slice e, .slice e'=>e=e'
  | .map k e, .map k' e'=>k=k'/\e=e'
  | .func _ _ _, .fn=>True
  | .interface _, .ifc=>True
  | .array n e, .arr n' e'=>n=n'/\e=e'
  | .struct fs, .st gs=>fs.toList.map (fun f=>(f.type,f.offset))=gs
  | _,_=>False
def TdOk (P:Program) (t:TypeId) (d:TD):Prop:=
  (∃ i z,P.info? t=some i/\i.size=d.size/\i.bytes=d.bytes/\i.zero=some z/\z.cells.toList=d.zero)/\∃ e,P.underlying t=some e/\ker e d.kind
def kac:List (TypeId×TD)->TypeId->Option TD
  | [],_=>none
  | (k,v)::l,t=>bif Nat.beq k t then some v else kac l t
def TOk (P:Program) (T:List (TypeId×TD)):Prop:=∀ p∈T,TdOk P p.1 p.2
theorem TOk.get {P:Program} {T:List (TypeId×TD)} (h:TOk P T) {t:TypeId} {d:TD} (ht:kac T t=some d):TdOk P t d:=by
  induction T with
  | nil=>cases ht
  | cons p l ih=>
    obtain ⟨k,v⟩:=p;simp only [kac] at ht;by_cases hk:k=t
    · subst hk
      simp only [Nat.beq_refl,qg,qc] at ht;subst ht;exact h _ (qt ..)
    · rw [Nat.beq_eq_false hk] at ht
      exact ih (fun p hp=>h p (qf _ hp)) ht
def kOf:TypeDesc->Option TK
  | .bool=>some .bool
  | .int k=>some (.int k)
  | .string=>some .str
  | .pointer e=>some (.ptr e)
  | .slice e=>some (.slice e)
  | .map k e=>some (.map k e)
  | .func _ _ _=>some .fn
  | .interface _=>some .ifc
  | .array n e=>some (.arr n e)
  | .struct fs=>some (.st (fs.toList.map (fun f=>(f.type,f.offset))))
  | _=>none
theorem kaa0 {e:TypeDesc} {k:TK} (h:kOf e=some k):ker e k:=by cases e <;> first | (injection h with h;subst h;simp [ker]) | cases h
def tdOf (P:Program) (t:TypeId):Option TD:=match P.info? t,P.underlying t with
  | some i,some e=>match i.zero,kOf e with
    | some z,some k=>some ⟨i.size,i.bytes,k,z.cells.toList⟩
    | _,_=>none
  | _,_=>none
theorem k9h {P:Program} {t:TypeId} {d:TD} (h:tdOf P t=some d):TdOk P t d:=by
  unfold tdOf at h;split at h
  · rename_i i e hi a
    split at h
    · rename_i z k b hk
      injection h with h;subst h;exact ⟨⟨i,z,hi,rfl,rfl,b,rfl⟩,e,a,kaa0 hk⟩
    · cases h
  · cases h
theorem k35 {P:Program}:∀ {T:List (TypeId×TD)},T.map (fun p=>tdOf P p.1)=T.map (fun p=>some p.2)->TOk P T
  | [],_=>fun p hp=>by cases hp
  | x::l,h=>by
    simp only [qba,List.cons.injEq] at h;intro p hp;rcases qaa.1 hp with rfl | hp
    · exact k9h h.1
    · exact k35 h.2 p hp
def intV (k:IntKind) (op:BinOp) (a b:Int):Option Value:=match op with
  | .add=>some (.int k (k.wrap (a+b)))
  | .sub=>some (.int k (k.wrap (a - b)))
  | .mul=>some (.int k (k.wrap (a*b)))
  | .quo=>if b=0 then none else some (.int k (k.wrap (a.tdiv b)))
  | .rem=>if b=0 then none else some (.int k (a.tmod b))
  | .and=>some (.int k (k.wrap (BitVec.ofInt k.bits a &&& BitVec.ofInt k.bits b).toNat))
  | .or=>some (.int k (k.wrap (BitVec.ofInt k.bits a ||| BitVec.ofInt k.bits b).toNat))
  | .xor=>some (.int k (k.wrap (BitVec.ofInt k.bits a ^^^ BitVec.ofInt k.bits b).toNat))
  | .andNot=>some (.int k (k.wrap (BitVec.ofInt k.bits a &&& ~~~BitVec.ofInt k.bits b).toNat))
  | .eql=>some (.bool (a == b))
  | .neq=>some (.bool (a != b))
  | .lss=>some (.bool (decide (a<b)))
  | .leq=>some (.bool (decide (a<=b)))
  | .gtr=>some (.bool (decide (b<a)))
  | .geq=>some (.bool (decide (b<=a)))
  | _=>none
def shV (k:IntKind) (op:BinOp) (a b:Int):Option Value:=match op with
  | .shl=>if b<0 then none else some (.int k (k.wrap (a*2 ^ (min b.toNat k.bits))))
  | .shr=>if b<0 then none else some (.int k (a.fdiv (2 ^ (min b.toNat k.bits))))
  | _=>none
def strV (op:BinOp) (x y:BA):Option Value:=match op with
  | .eql=>some (.bool (x.toList == y.toList))
  | .neq=>some (.bool !(x.toList == y.toList))
  | .lss=>some (.bool (Op.bytesLess x.toList y.toList))
  | .leq=>some (.bool (Op.bytesLess x.toList y.toList || x.toList == y.toList))
  | .gtr=>some (.bool !(Op.bytesLess x.toList y.toList || x.toList == y.toList))
  | .geq=>some (.bool !(Op.bytesLess x.toList y.toList))
  | _=>none
def binV (bt:Bool) (op:BinOp):Value->Value->Option Value
  | .int k a, .int k' b=>match op with
    | .shl=>shV k .shl a b
    | .shr=>shV k .shr a b
    | op=>if k=k' then intV k op a b else none
  | .string x, .string y=>strV op x y
  | .bool x, .bool y=>match bt,op with
    | true, .eql=>some (.bool (x == y))
    | true, .neq=>some (.bool (!(x == y)))
    | _,_=>none
  | _,_=>none
def unV (op:UnOp):Value->Option Value
  | .int k n=>match op with
    | .neg=>some (.int k (k.wrap (0 - n)))
    | .xor=>some (.int k (k.wrap (BitVec.ofInt k.bits (if k.signed then -1 else k.max) ^^^ BitVec.ofInt k.bits n).toNat))
    | _=>none
  | .bool b=>match op with
    | .not=>some (.bool !b)
    | _=>none
  | _=>none
variable {P:Program} {w w':World} {S S':Nat->Prop} {ψ:Env} {K:Nat->Prop} {T:List (TypeId×TD)} {o:Oper} {a:Act} {st:St}
theorem k4o {op:BinOp} {t:TypeId} {k:IntKind} {a b:Int} {v:Value} (hs:op ≠ .shl/\op ≠ .shr) (h:intV k op a b=some v):(binOp op t (.int k a) (.int k b)).run P w = .ok v w:=by
  cases op <;> simp only [intV] at h <;> first
    | exact absurd rfl hs.1
    | exact absurd rfl hs.2
    | (injection h with h;subst h;simp only [binOp,ne_eq,not_true_eq_false,if_false];rfl)
    | (split at h
       · cases h
       · rename_i c
         injection h with h;subst h;simp only [binOp,ne_eq,not_true_eq_false,if_false,Op.intDiv,qj c];rfl)
theorem kyg {op:BinOp} {t:TypeId} {k k':IntKind} {a b:Int} {v:Value} (hs:op = .shl\/op = .shr) (h:shV k op a b=some v):(binOp op t (.int k a) (.int k' b)).run P w = .ok v w:=by
  rcases hs with rfl | rfl <;> simp only [shV] at h <;>
    (split at h
     · cases h
     · rename_i c
       injection h with h;subst h;simp only [binOp,Op.shift,qj c];rfl)
theorem k4q {op:BinOp} {t:TypeId} {x y:BA} {v:Value} (h:strV op x y=some v):(binOp op t (.string x) (.string y)).run P w = .ok v w:=by
  cases op <;> simp only [strV] at h <;> first
    | (injection h with h;subst h;rfl)
    | cases h
theorem k5j {bt:Bool} {op:BinOp} {t:TypeId} {x y v:Value} (e:bt=true->P.underlying t=some .bool) (h:binV bt op x y=some v):(binOp op t x y).run P w = .ok v w:=by
  cases x <;> cases y <;> simp only [binV] at h <;> try cases h
  case int.int k a k' b=>
    by_cases h1:op = .shl
    · subst h1;exact kyg (.inl rfl) h
    by_cases c:op = .shr
    · subst c;exact kyg (.inr rfl) h
    have d:(if k=k' then intV k op a b else none)=some v:=by cases op <;> first | exact h | exact absurd rfl h1 | exact absurd rfl c
    split at d
    · rename_i hk
      subst hk;exact k4o ⟨h1,c⟩ d
    · cases d
  case string.string x y=>exact k4q h
  case bool.bool x y=>
    cases bt with
    | false=>cases h
    | true=>
      have f:=e rfl;have g:(Op.equal t (.bool x) (.bool y)).run P w = .ok (x == y) w:=(by unfold Op.equal;rw [show Op.maxDepth=9999+1 from rfl,Op.equalIn,Sem.run_bind,run_underlying f,Result.andThen_ok];rfl);cases op <;> simp only at h <;> first
        | (injection h with h;subst h;simp only [binOp,Sem.run_bind,g,Result.andThen_ok];rfl)
        | cases h
theorem k8l {op:UnOp} {x v:Value} (h:unV op x=some v):(Op.unary op x).run P w = .ok v w:=by
  cases x <;> simp only [unV] at h <;> try cases h
  case int k n=>cases op <;> simp at h <;> (subst h;simp [Op.unary,Op.intArith,Op.intBits])
  case bool b=>cases op <;> simp at h <;> (subst h;simp [Op.unary])
theorem k6b {bt:Bool} {op:BinOp} {x y v:Value} (h:binV bt op x y=some v):v.oneCell'=true:=by
  cases x <;> cases y <;> simp only [binV] at h <;> try cases h
  case int.int k a k' b=>
    cases op <;> simp only [shV,intV] at h <;> (repeat' split at h) <;> first
      | (injection h with h;subst h;rfl)
      | cases h
  case string.string x y=>cases op <;> simp only [strV] at h <;> first | (injection h with h;subst h;rfl) | cases h
  case bool.bool x y=>cases bt <;> cases op <;> first | (injection h with h;subst h;rfl) | cases h
theorem k9n {op:UnOp} {x v:Value} (h:unV op x=some v):v.oneCell'=true:=by cases x <;> cases op <;> simp [unV] at h <;> (subst h;rfl)
theorem kad (w':World) {R:Value->World->Prop} (v:Value) (h:(execOp a.eval o).run P w = .ok (.value v) w') (hr:R v w'):kce P o a w R:=by unfold kce;rw [h];exact hr
theorem kin (w':World) {R:Value->World->Prop} (h:(execOp a.eval o).run P w = .ok .skip w') (hr:R undef w'):kce P o a w R:=by unfold kce;rw [h];exact hr
theorem RV.here {v:Value} {x:AV} (h:RV ψ K S w v x):RV ψ K (fun b=>S b\/w.heap.size<=b) w v x:=h.mono (fun _ h=>h) fun _ h => .inl h
def k8d:Value->Bool
  | .int ..=>true
  | .string _=>true
  | .bool _=>true
  | _=>false
theorem kp5 {op:BinOp} {t:TypeId} {x y:Operand} {u v:Value} (a:k8d u=true):(eqGuard op t x y u v).run P w = .ok () w:=by unfold eqGuard;cases u <;> cases a <;> cases op <;> simp
theorem k1x {bt:Bool} {op:BinOp} {u v r:Value} (h:binV bt op u v=some r):k8d u=true:=by cases u <;> cases v <;> first | rfl | cases h
theorem k24 {op:BinOp} {t yt:TypeId} {x y:Operand} {u v r:Value} (bt:Bool) (c:bt=true->P.underlying t=some .bool) (d:o.op = .binOp op t x y yt) (hx:st.eval x = .fz (.atom u)) (hy:st.eval y = .fz (.atom v)) (h:binV bt op u v=some r):NStep P o st (.fz (.atom r)):=by intro ψ S a w ht _;have h1:=Sim.eval_tmps ht x;have b:=Sim.eval_tmps ht y;rw [hx] at h1;rw [hy] at b;refine kad w r ?_ ⟨kae _, .fz (.atom (k6b h))⟩;simp [execOp,d,h1.atom,b.atom,k5j c h,kp5 (k1x h)]
theorem n_un {op:UnOp} {t:TypeId} {x:Operand} {u r:Value} (b:o.op = .unOp op t x) (hx:st.eval x = .fz (.atom u)) (h:unV op u=some r):NStep P o st (.fz (.atom r)):=by intro ψ S a w ht _;have h1:=Sim.eval_tmps ht x;rw [hx] at h1;refine kad w r ?_ ⟨kae _, .fz (.atom (k9n h))⟩;simp [execOp,b,h1.atom,k8l h]
theorem ktz {x:Operand} (b:o.op = .move x\/o.op = .assign x):NStep P o st (st.eval x):=by intro ψ S a w ht _;refine kad w (a.eval x) ?_ ⟨kae _,(Sim.eval_tmps ht x).here⟩;rcases b with b | b <;> simp [execOp,b]
theorem k4g {c x y:Operand} {b:Bool} (d:o.op = .pick c x y) (hc:st.eval c = .fz (.atom (.bool b))):NStep P o st (bif b then st.eval x else st.eval y):=by
  intro ψ S a w ht _;have h1:=Sim.eval_tmps ht c;rw [hc] at h1;refine kad w (bif b then a.eval x else a.eval y) ?_ ⟨kae _,?_⟩
  · cases b <;> simp [execOp,d,h1.atom,asBool]
  · cases b
    · exact (Sim.eval_tmps ht y).here
    · exact (Sim.eval_tmps ht x).here
end Go.Proofs.YtjnjipmjkkhdpaaGreatDoor
set_option linter.all false
namespace Go.Proofs.YtjnjipmjkkhdpaaGreatDoor
open Go Go.RowKit
variable [Dr]
def kka:List AV->Option (List FV)
  | []=>some []
  | .fz x::l=>(kka l).map (x::·)
  | _::_=>none
def aggA (xs:List AV):AV:=match kka xs with
  | some ys => .fz (.agg ys)
  | none => .agg xs
def tupA (xs:List AV):AV:=match kka xs with
  | some ys => .fz (.tup ys)
  | none => .tup xs
def kjl (d:TD) (xs:List AV):Option AV:=bif d.kind.agg then (bif Nat.ble d.size xs.length then some (aggA (xs.take d.size)) else none) else xs.head?
def kjy (st:St):AV->Option (List AV)
  | .fz (.fp cs)=>some (cs.map .fz)
  | .ref id n off=>match kaa st.heap id with
    | some (.box _ cells)=>bif Nat.beq n 0 then some (cells.drop off) else none
    | _=>none
  | _=>none
variable {P:Program} {w w':World} {S S':Nat->Prop} {ψ:Env} {K:Nat->Prop} {T:List (TypeId×TD)} {o:Oper} {a:Act} {st:St} {t:TypeId} {d:TD}
theorem TdOk.size (h:TdOk P t d):(sizeOf t).run P w = .ok d.size w:=by obtain ⟨⟨i,z,h1,a,_⟩,_⟩:=h;simp [sizeOf,typeInfo,h1,a]
theorem TdOk.info (h:TdOk P t d):(P.info? t).map (·.size)=some d.size:=by obtain ⟨⟨i,z,h1,a,_⟩,_⟩:=h;simp [h1,a]
theorem TdOk.isAgg (h:TdOk P t d):(isAgg t).run P w = .ok d.kind.agg w:=by obtain ⟨_,e,h1,a⟩:=h;unfold Go.isAgg;rw [Sem.run_bind,run_underlying h1];cases e <;> cases hk:d.kind <;> simp [ker,hk,TK.agg] at a ⊢
theorem TdOk.zero (h:TdOk P t d):∃ z,(zeroValue t).run P w = .ok z w/\z.cells.toList=d.zero:=by obtain ⟨⟨i,z,h1,c,e,a,b⟩,_⟩:=h;exact ⟨z,by simp [zeroValue,typeInfo,h1,a],b⟩
theorem TdOk.strct {fs:List (TypeId×Nat)} (h:TdOk P t d) (hk:d.kind = .st fs):∃ gs:Array Field,(∀ w,(underlying t).run P w = .ok (.struct gs) w)/\gs.toList.map (fun f=>(f.type,f.offset))=fs:=by obtain ⟨_,e,h1,a⟩:=h;rw [hk] at a;cases e <;> simp [ker] at a;exact ⟨_,fun w=>run_underlying h1 w,a⟩
theorem TdOk.arr {n e:Nat} (h:TdOk P t d) (hk:d.kind = .arr n e):P.underlying t=some (.array n e):=by obtain ⟨_,e',h1,a⟩:=h;rw [hk] at a;cases e' <;> simp [ker] at a;rw [h1,a.1,a.2]
theorem TdOk.slice {e:Nat} (h:TdOk P t d) (hk:d.kind = .slice e):P.underlying t=some (.slice e):=by obtain ⟨_,e',h1,a⟩:=h;rw [hk] at a;cases e' <;> simp [ker] at a;rw [h1,a]
theorem TdOk.str (h:TdOk P t d) (hk:d.kind = .str):P.underlying t=some .string:=by obtain ⟨_,e',h1,a⟩:=h;rw [hk] at a;cases e' <;> simp [ker] at a;rw [h1]
theorem kj3:∀ {xs:List AV} {ys:List FV},kka xs=some ys->xs=ys.map .fz
  | [],ys,h=>by simp [kka] at h;subst h;rfl
  | .fz x::l,ys,h=>by simp only [kka,qn] at h;obtain ⟨zs,a,rfl⟩:=h;rw [kj3 a];rfl
theorem RV.aggA {cs:Array Value} {xs:List AV} (h:cs.size=xs.length) (h1:∀ x∈xs,x.single=true) (hr:∀ (i:Nat) (v:Value) (x:AV),cs[i]?=some v->xs[i]?=some x->RV ψ K S w v x):RV ψ K S w (.agg cs) (aggA xs):=by
  unfold Go.Proofs.YtjnjipmjkkhdpaaGreatDoor.aggA;cases hy:kka xs with
  | none=>exact .agg h h1 hr
  | some ys=>
    have:=kj3 hy;subst this;exact .fz (.agg (by simpa using h) (fun x hx=>h1 (.fz x) (by simp [hx])) fun i v x hv hx=>(hr i v (.fz x) hv (by simp [hx])).inv)
theorem RV.tupA {cs:Array Value} {xs:List AV} (h:cs.size=xs.length) (hr:∀ (i:Nat) (v:Value) (x:AV),cs[i]?=some v->xs[i]?=some x->RV ψ K S w v x):RV ψ K S w (.tuple cs) (tupA xs):=by
  unfold Go.Proofs.YtjnjipmjkkhdpaaGreatDoor.tupA;cases hy:kka xs with
  | none=>exact .tup h hr
  | some ys=>
    have:=kj3 hy;subst this;exact .fz (.tup (by simpa using h) fun i v x hv hx=>(hr i v (.fz x) hv (by simp [hx])).inv)
def k18 (ψ:Env) (K S:Nat->Prop) (w:World) (b o:Nat) (xs:List AV):Prop:=
  ∃ cs:List Value,At w b o cs/\cs.length=xs.length/\(∀ x∈xs,x.single=true)/\∀ (i:Nat) (v:Value) (x:AV),cs[i]?=some v->xs[i]?=some x->RV ψ K S w v x
theorem kpg {v:Value} {x:AV} {xs:List AV} (hv:RV ψ (·∈st.ids) S w v x) (f:∀ id o,kaa st.heap id=some o->ObR ψ (·∈st.ids) S w id o) (h:kjy st x=some xs):
    ∃ b o,v = .pointer (some ⟨b,o,none⟩)/\k18 ψ (·∈st.ids) S w b o xs:=by
  cases x with
  | fz x=>
    cases x with
    | fp cs=>
      simp only [kjy,qc] at h;subst h;cases hv with
      | fz hv=>
        cases hv with
        | @fp b o _ vs hS ha hl h0 h1 hr=>
          refine ⟨b,o,rfl,vs,ha,by simpa using hl,fun x hx=>?_,fun i v x hv hx=>?_⟩
          · simp only [qap] at hx
            obtain ⟨y,hy,rfl⟩:=hx;exact h1 y hy
          · simp only [ql,qn] at hx
            obtain ⟨y,hy,rfl⟩:=hx;exact .fz (hr i v y hv hy)
    | _=>cases h
  | ref id n off=>
    simp only [kjy] at h;split at h
    · rename_i e cells g
      cases hn:Nat.beq n 0 with
      | false=>rw [hn] at h;cases h
      | true=>
        rw [hn] at h;simp only [qg,qc] at h;subst h;obtain rfl:=qe hn;obtain ⟨h0,b,cs,h1,k,l,m,p⟩:=f id _ g;cases hv with
        | ref hK q r c=>
          obtain ⟨b',a,rfl⟩:=c h0.symm;rw [h1] at a;simp only [kap,qc] at a;subst a;refine ⟨b,off,rfl,cs.toList.drop off,fun j u d=>?_,by simp [l],fun x hx=>m x (qbe hx),fun i v x hv hx=>?_⟩
          · rw [qag] at d
            simp only [World.cell?,k];simpa using d
          · rw [qag] at hv hx
            exact p _ v x (by simpa using hv) hx
    · cases h
  | _=>cases h
theorem kabj {x:Operand} {xs:List AV} {c:AV} (n:o.op = .load t x) (hd:TdOk P t d) (hx:kjy st (st.eval x)=some xs) (hc:kjl d xs=some c):NStep P o st c:=by
  intro ψ S a w ht q;obtain ⟨b,off,hv,cs,h,hl,h1,hr⟩:=kpg (Sim.eval_tmps ht x) q hx;unfold kjl at hc;cases hk:d.kind.agg with
  | false=>
    rw [hk] at hc;simp only [qo] at hc;cases xs with
    | nil=>cases hc
    | cons y ys=>
      simp only [List.head?_cons,qc] at hc;subst hc;have k:cs[0]?=some (cs[0]'(by simp at hl;omega)):=qa _;have f:w.cell? ⟨b,off,none⟩=some (cs[0]'(by simp at hl;omega)):=(by simpa using h 0 _ k);refine kad w (cs[0]'(by simp at hl;omega)) ?_ ⟨kae _,(hr 0 _ y k rfl).here⟩;simp [execOp,n,hv,Instr.loadAt,Instr.sureAddr,loadVar,hd.isAgg,hk,f]
  | true=>
    rw [hk] at hc;simp only [qg] at hc;cases g:Nat.ble d.size xs.length with
    | false=>rw [g] at hc;cases hc
    | true=>
      rw [g] at hc;simp only [qg,qc] at hc;subst hc;have p:=qh g;have l:(cs.take d.size).length=d.size:=(by rw [q9];omega);have e:=run_loadCells_list (P:=P) w ⟨b,off,none⟩ (cs.take d.size) fun j v m=>by
        rw [qw] at m;split at m
        · have:=h j v m
          simp only [Addr.add];split
          · rename_i h0;subst h0;simpa using this
          · exact this
        · cases m
      rw [l] at e;refine kad w (.agg (cs.take d.size).toArray) ?_ ⟨kae _,(RV.aggA (by simp [hl]) (fun x hx=>h1 x (qa4 hx)) fun i v x hv hx=>?_).here⟩
      · simp [execOp,n,hv,Instr.loadAt,Instr.sureAddr,loadVar,hd.isAgg,hk,hd.size,e]
      · simp only [qbr] at hv
        rw [qw] at hv hx;split at hv
        · rename_i hi;rw [qr hi] at hx;exact hr i v x hv hx
        · cases hv
def klk (st:St) (off:Nat) (x:AV):Option AV:=match x with
  | .fz (.fp cs)=>match cs.drop off with
    | []=>none
    | y::ys=>some (.fz (.fp (y::ys)))
  | .ref id n o=>match kaa st.heap id with
    | some (.box _ cells)=>bif Nat.beq n 0 then some (.ref id n (o+off)) else none
    | _=>none
  | _=>none
theorem kbg (b o n:Nat):(⟨b,o,none⟩:Addr).add n=⟨b,o+n,none⟩:=by
  unfold Addr.add;split
  · rename_i h;subst h;rfl
  · rfl
theorem kn3 {off:Nat} {v:Value} {x c:AV} (hv:RV ψ (·∈st.ids) S w v x) (m:∀ id o,kaa st.heap id=some o->ObR ψ (·∈st.ids) S w id o) (h:klk st off x=some c):
    ∃ b o,v = .pointer (some ⟨b,o,none⟩)/\RV ψ (·∈st.ids) S w (.pointer (some ⟨b,o+off,none⟩)) c:=by
  cases x with
  | fz x=>
    cases x with
    | fp cs=>
      simp only [klk] at h;cases hv with
      | fz hv=>
        cases hv with
        | @fp b o _ vs hS ha hl h0 h1 hr=>
          split at h
          · cases h
          · rename_i y ys hd
            injection h with h;subst h;refine ⟨b,o,rfl, .fz ?_⟩;rw [<- hd];have k:off<cs.length:=by
              rcases qa6 off cs.length with a | a
              · exact a
              · rw [List.drop_eq_nil_of_le a] at hd;cases hd
            refine .fp (vs.drop off) hS (fun j u l=>?_) (by simp [hl]) (by rw [qau];omega) (fun x hx=>h1 x (qbe hx)) fun i v x hv hx=>?_
            · rw [qag] at l
              have:=ha _ u l
              rwa [<- Nat.add_assoc] at this
            · rw [qag] at hv hx
              exact hr _ v x hv hx
    | _=>cases h
  | ref id n off'=>
    simp only [klk] at h;split at h
    · rename_i e cells p
      cases hn:Nat.beq n 0 with
      | false=>rw [hn] at h;cases h
      | true=>
        rw [hn] at h;simp only [qg,qc] at h;subst h;obtain rfl:=qe hn;obtain ⟨h0,b,cs,h1,r,s,t,z⟩:=m id _ p;cases hv with
        | ref hK d q f=>
          obtain ⟨b',g,rfl⟩:=f h0.symm;exact ⟨b',off',rfl, .ref hK d rfl fun _=>⟨b',g,rfl⟩⟩
    · cases h
  | _=>cases h
theorem k82 {s:TypeId} {x:Operand} {f:Nat} {fs:List (TypeId×Nat)} {ft:TypeId} {off:Nat} {df:TD} {c:AV} (l:o.op = .fieldAddr s x f) (hd:TdOk P s d) (hk:d.kind = .st fs) (k:fs[f]?=some (ft,off)) (h:TdOk P ft df) (m:df.size≠0)
    (hc:klk st off (st.eval x)=some c):NStep P o st c:=by
  intro ψ S a w ht n;obtain ⟨b,off',hv,hr⟩:=kn3 (Sim.eval_tmps ht x) n hc;obtain ⟨gs,p,i⟩:=hd.strct hk;have e:∃ g:Field,gs[f]?=some g/\g.type=ft/\g.offset=off:=by rw [<- i,ql,qn] at k;obtain ⟨g,e,j⟩:=k;simp only [qp] at j;exact ⟨g,by simpa using e,j.1,j.2⟩
  obtain ⟨g,e,rfl,rfl⟩:=e;refine kad w _ ?_ ⟨kae _,hr.here⟩;simp [execOp,l,hv,Instr.fieldAt,p,e,Instr.sureAddr,fieldPlace,h.size,m,kbg]
theorem kv1 {x:Operand} {i:Nat} {c:AV} (d:o.op = .extract x i) (hc:(match st.eval x with | .fz (.tup xs)=>(xs[i]?).map .fz | .tup xs=>xs[i]? | _=>none)=some c):NStep P o st c:=by
  intro ψ S a w ht g;have hv:=Sim.eval_tmps ht x;have key:∃ (cs:Array Value) (v:Value),a.eval x = .tuple cs/\cs[i]?=some v/\RV ψ (·∈st.ids) S w v c:=by
    generalize st.eval x=y at hv hc;generalize a.eval x=u at hv;split at hc
    · rename_i xs
      have hv:=hv.inv;cases hv with
      | @tup cs _ hl hr=>
        simp only [qn] at hc;obtain ⟨z,b,rfl⟩:=hc;have hi:i<cs.size:=(by rw [hl];exact (qd.1 b).1);exact ⟨cs,cs[i],rfl,by simp [hi], .fz (hr i _ z (by simp [hi]) b)⟩
    · rename_i xs
      cases hv with
      | @tup cs _ hl hr=>
        have hi:i<cs.size:=(by rw [hl];exact (qd.1 hc).1);exact ⟨cs,cs[i],rfl,by simp [hi],hr i _ c (by simp [hi]) hc⟩
    · cases hc
  obtain ⟨cs,v,h1,e,f⟩:=key;refine kad w v ?_ ⟨kae _,f.here⟩;simp [execOp,d,h1,Instr.extract,e]
theorem k16 {x:Operand} {c:AV} (d:o.op = .nilCheck x) (hc:klk st 0 (st.eval x)=some c):NStep P o st c:=by intro ψ S a w ht e;obtain ⟨b,off',hv,hr⟩:=kn3 (Sim.eval_tmps ht x) e hc;refine kad w _ ?_ ⟨kae _,hr.here⟩;simp [execOp,d,hv]
end Go.Proofs.YtjnjipmjkkhdpaaGreatDoor
set_option linter.all false
namespace Go.Proofs.YtjnjipmjkkhdpaaGreatDoor
open Go Go.RowKit
variable [Dr]
def kbw {α:Type} (cells:List α) (off:Nat) (xs:List α):List α:=cells.take off++(xs++cells.drop (off+xs.length))
def kn8 (place:Nat->Option (Nat×Nat)) (cells:List AV):List (Nat×AV)->Option (List AV)
  | []=>some cells
  | (i,x)::rest=>match place i with
    | none=>none
    | some (off,size)=>bif Nat.beq x.cells.length size && (Nat.ble (off+size) cells.length && x.cells.all AV.single) then kn8 place (kbw cells off x.cells) rest else none
def knx (d:TD):Option (List AV):=bif d.zero.all (·.oneCell') then some (d.zero.map fun v => .fz (.atom v)) else none
variable {P:Program} {w w':World} {S S':Nat->Prop} {ψ:Env} {K:Nat->Prop} {T:List (TypeId×TD)} {o:Oper} {a:Act} {st:St} {t:TypeId} {d:TD}
def PW (ψ:Env) (K S:Nat->Prop) (w:World) (cs:Array Value) (xs:List AV):Prop:=
  cs.size=xs.length/\∀ (i:Nat) (v:Value) (x:AV),cs[i]?=some v->xs[i]?=some x->RV ψ K S w v x
theorem ki7 {α:Type} (cells:List α) (off:Nat) (xs:List α) (h:off+xs.length<=cells.length) (k:Nat):(kbw cells off xs)[k]?=if off<=k/\k<off+xs.length then xs[k - off]? else cells[k]?:=by
  unfold kbw;by_cases h1:k<off
  · rw [qab (by rw [q9];omega),qw,qr h1,qj (by omega)]
  · rw [qad (by rw [q9];omega),q9,Nat.min_eq_left (by omega)]
    by_cases a:k<off+xs.length
    · rw [qab (by omega),qr (by omega)]
    · rw [qad (by omega),qag,qj (by omega)]
      congr 1;omega
theorem kg0 {α:Type} (cells:List α) (off:Nat) (xs:List α) (h:off+xs.length<=cells.length):(kbw cells off xs).length=cells.length:=by unfold kbw;simp only [qy,q9,qau];omega
theorem ku4 (place:Nat->Option (Nat×Nat)):∀ (parts:List (Nat×Value)) (as_:List (Nat×AV)) (cells:Array Value) (xs rs:List AV),PW ψ K S w cells xs->(∀ x∈xs,x.single=true)->parts.length=as_.length ->
    (∀ (i:Nat) (p:Nat×Value) (q:Nat×AV),parts[i]?=some p->as_[i]?=some q->p.1=q.1/\RV ψ K S w p.2 q.2)->kn8 place xs as_=some rs ->
    ∃ r,Instr.fill place cells parts=some r/\PW ψ K S w r rs/\∀ x∈rs,x.single=true
  | [],[],cells,xs,rs,hp,h1,_,_,a=>by simp only [kn8,qc] at a;subst a;exact ⟨cells,rfl,hp,h1⟩
  | (i,v)::parts,(j,x)::as_,cells,xs,rs,hp,h1,hl,hr,a=>by
    obtain ⟨e,hx⟩:=hr 0 _ _ rfl rfl;simp only at e;subst e;simp only [kn8] at a;cases b:place i with
    | none=>rw [b] at a;cases a
    | some os=>
      obtain ⟨off,size⟩:=os;rw [b] at a;simp only at a;cases hc:(Nat.beq x.cells.length size && (Nat.ble (off+size) xs.length && x.cells.all AV.single)) with
      | false=>rw [hc] at a;cases a
      | true=>
        rw [hc] at a;simp only [qg] at a;simp only [qk] at hc;obtain ⟨c,hc2,g⟩:=hc;have c:=qe c;have hc2:=qh hc2;have hs:∀ y∈x.cells,y.single=true:=qq.1 g;obtain ⟨e1,e2,e3⟩:=RV.cells hx hs;simp only at e1 e2 e3;obtain ⟨g1,g2⟩:=Great.foldl_set off v.cells.toList 0 cells;have f:off+x.cells.length<=xs.length:=(by omega);have l:PW ψ K S w ((v.cells.toList.zipIdx 0).foldl (fun cs (x:Value×Nat)=>cs.setIfInBounds (off+x.2) x.1) cells) (kbw xs off x.cells):=by
          refine ⟨by rw [g1,kg0 _ _ _ f];exact hp.1,fun k u y d hy=>?_⟩;rw [g2 k] at d;rw [ki7 _ _ _ f] at hy;simp only [Nat.add_zero,qac,e1] at d;by_cases hk:off<=k/\k<off+x.cells.length
          · rw [qr ⟨hk.1,hk.2,by rw [hp.1];omega⟩] at d
            rw [qr hk] at hy;exact e2 _ u y (by simpa using d) hy
          · rw [qj (fun h=>hk ⟨h.1,h.2.1⟩)] at d
            rw [qj hk] at hy;exact hp.2 k u y d hy
        have m:∀ y∈kbw xs off x.cells,y.single=true:=by
          intro y hy;unfold kbw at hy;simp only [qaz] at hy;rcases hy with hy | hy | hy
          · exact h1 y (qa4 hy)
          · exact hs y hy
          · exact h1 y (qbe hy)
        obtain ⟨r,o,s,t⟩:=ku4 place parts as_ _ _ rs l m (by simpa using hl) (fun n p q hp z=>hr (n+1) p q (by simpa using hp) (by simpa using z)) a;refine ⟨r,?_,s,t⟩;unfold Instr.fill;rw [b];simp only;rw [qj (by simp [e1,c,hp.1];omega)];rw [<- o];congr 1;rw [<- Array.foldl_toList,Array.toList_zipIdx]
theorem kzq {α β:Type} {f:α->Sem β} {g:α->β} (w:World):∀ (l:List α),(∀ x∈l,(f x).run P w = .ok (g x) w)->(l.mapM f).run P w = .ok (l.map g) w
  | [],_=>by simp
  | x::l,h=>by rw [List.mapM_cons];have h1:=h x (qt ..);have a:=kzq w l fun y hy=>h y (qf _ hy);simp [h1,a]
theorem kuz (w:World) (ψ:Env) {z:Value} {xs:List AV} (c:z.cells.toList=d.zero) (h:knx d=some xs):PW ψ K S w z.cells xs/\∀ x∈xs,x.single=true:=by
  unfold knx at h;cases e:d.zero.all (·.oneCell') with
  | false=>rw [e] at h;cases h
  | true=>
    rw [e] at h;simp only [qg,qc] at h;subst h;have a:=qq.1 e;refine ⟨⟨by rw [qs,<- c];simp,fun i v x hv hx=>?_⟩,fun x hx=>?_⟩
    · simp only [ql,qn] at hx
      obtain ⟨u,b,rfl⟩:=hx;rw [<- c,qal,hv] at b;injection b with b;subst b;exact .fz (.atom (a v (by rw [<- c];exact Array.mem_toList_iff.2 (Array.mem_of_getElem? hv))))
    · simp only [qap] at hx
      obtain ⟨v,hv,rfl⟩:=hx;exact a v hv
def kmw (T:List (TypeId×TD)):List (TypeId×Nat)->Option (List (Nat×Nat))
  | []=>some []
  | (ft,off)::l=>match kac T ft,kmw T l with
    | some d,some r=>some ((off,d.size)::r)
    | _,_=>none
theorem kt4 (b:TOk P T):∀ {fs:List (TypeId×Nat)} {ps:List (Nat×Nat)},kmw T fs=some ps->ps=fs.map (fun f=>(f.2,P.cellsOf f.1))/\∀ f∈fs,∀ w,(sizeOf f.1).run P w = .ok (P.cellsOf f.1) w
  | [],ps,h=>by simp [kmw] at h;subst h;exact ⟨rfl,fun f a=>by cases a⟩
  | (ft,off)::l,ps,h=>by
    simp only [kmw] at h;split at h
    · rename_i d r hd hr
      injection h with h;subst h;obtain ⟨h1,c⟩:=kt4 b hr;have hs:P.cellsOf ft=d.size:=(by unfold Program.cellsOf;rw [(b.get hd).info];rfl);refine ⟨by simp [h1,hs],fun f a=>?_⟩;rcases qaa.1 a with rfl | a
      · intro w;rw [(b.get hd).size];simp [hs]
      · exact c f a
    · cases h
def kb4 (st:St) (ps:Array (Nat×Operand)):List (Nat×AV):=ps.toList.map fun p=>(p.1,st.eval p.2)
theorem kkh {ids:List Nat} (h:∀ t,RV ψ (·∈ids) S w (a.tmps.getD t undef) (st.get t)) (ps:Array (Nat×Operand)):
    (ps.map fun (i,x)=>(i,a.eval x)).toList.length=(kb4 st ps).length/\∀ (i:Nat) (p:Nat×Value) (q:Nat×AV),(ps.map fun (i,x)=>(i,a.eval x)).toList[i]?=some p->(kb4 st ps)[i]?=some q->p.1=q.1/\RV ψ (·∈ids) S w p.2 q.2:=by
  refine ⟨by simp [kb4],fun i p q hp b=>?_⟩;unfold kb4 at b;simp only [Array.toList_map,ql,qn] at hp b;obtain ⟨x,hx,rfl⟩:=hp;obtain ⟨y,hy,rfl⟩:=b;rw [hx] at hy;injection hy with hy;subst hy;exact ⟨rfl,Sim.eval_tmps h x.2⟩
def ky4 (T:List (TypeId×TD)) (st:St) (t:TypeId) (parts:Array (Nat×Operand)):Option AV:=match kac T t with
  | some d=>match d.kind,knx d with
    | .st fs,some zs=>match kmw T fs with
      | some ps=>(kn8 (fun i:Nat=>ps[i]?) zs (kb4 st parts)).map aggA
      | none=>none
    | .arr _ e,some zs=>match kac T e with
      | some de=>(kn8 (fun i:Nat=>some (i*de.size,de.size)) zs (kb4 st parts)).map aggA
      | none=>none
    | _,_=>none
  | none=>none
theorem k0j {parts:Array (Nat×Operand)} {c:AV} (u:TOk P T) (F:o.op = .build t parts) (hc:ky4 T st t parts=some c):NStep P o st c:=by
  intro ψ S a w ht H;unfold ky4 at hc;split at hc
  · rename_i d hd
    have hd:=u.get hd;split at hc
    · rename_i fs zs hk y
      split at hc
      · rename_i ps A
        simp only [qn] at hc;obtain ⟨rs,k,rfl⟩:=hc;obtain ⟨gs,B,s⟩:=hd.strct hk;obtain ⟨C,D⟩:=kt4 u A;obtain ⟨z,l,m⟩:=hd.zero (w:=w);obtain ⟨e1,e2⟩:=kkh ht parts;obtain ⟨z1,z2⟩:=kuz (S:=S) (K:=(·∈st.ids)) w ψ m y;obtain ⟨r,b,h,p⟩:=ku4 (fun i:Nat=>ps[i]?) _ _ _ _ rs z1 z2 e1 e2 k;refine kad w (.agg r) ?_ ⟨kae _,(RV.aggA h.1 p h.2).here⟩;have hm:(Array.mapM (fun f:Field=>Prod.mk f.offset <$> sizeOf f.type) gs).run P w = .ok ps.toArray w:=(by rw [Array.mapM_eq_mapM_toList];have:=kzq (P:=P) (f:=fun f:Field=>Prod.mk f.offset <$> sizeOf f.type) (g:=fun f=>(f.offset,P.cellsOf f.type)) w gs.toList fun f G=>(by have:=D (f.type,f.offset) (by rw [<- s];exact qap.2 ⟨f,G,rfl⟩) w;simp [this]);simp only [Sem.run_map,this];rw [C,<- s];simp);have E:(fun i:Nat=>ps.toArray[i]?)=fun i:Nat=>ps[i]?:=(by funext i;simp);have j:(parts.map fun (i,x)=>(i,a.eval x)).toList=List.map (fun x=>(x.fst,a.eval x.snd)) parts.toList:=(by simp);rw [j] at b;simp [execOp,F,Instr.build,l,B,hm,E,b]
      · cases hc
    · rename_i n e zs hk y
      split at hc
      · rename_i de q
        have q:=u.get q;simp only [qn] at hc;obtain ⟨rs,k,rfl⟩:=hc;have B:=run_underlying (hd.arr hk) w;obtain ⟨z,l,m⟩:=hd.zero (w:=w);obtain ⟨e1,e2⟩:=kkh ht parts;obtain ⟨z1,z2⟩:=kuz (S:=S) (K:=(·∈st.ids)) w ψ m y;obtain ⟨r,b,h,p⟩:=ku4 (fun i:Nat=>some (i*de.size,de.size)) _ _ _ _ rs z1 z2 e1 e2 k;refine kad w (.agg r) ?_ ⟨kae _,(RV.aggA h.1 p h.2).here⟩;have j:(parts.map fun (i,x)=>(i,a.eval x)).toList=List.map (fun x=>(x.fst,a.eval x.snd)) parts.toList:=(by simp);rw [j] at b;simp [execOp,F,Instr.build,l,B,q.size,b]
      · cases hc
    · cases hc
  · cases hc
def arrX (T:List (TypeId×TD)) (st:St) (t:TypeId) (x y:Operand):Option AV:=match kac T t with
  | some d=>match d.kind with
    | .arr n e=>match kac T e,st.eval y with
      | some de, .fz (.atom (.int _ i))=>bif decide (0<=i) && decide (i<n) then klk st (i.toNat*de.size) (st.eval x) else none
      | _,_=>none
    | _=>none
  | none=>none
theorem n_arr {x y:Operand} {c:AV} (l:TOk P T) (m:o.op = .indexAddr t x y) (hc:arrX T st t x y=some c):NStep P o st c:=by
  intro ψ S a w ht p;unfold arrX at hc;split at hc
  · rename_i d hd
    split at hc
    · rename_i n e hk
      split at hc
      · rename_i de k i f hy
        cases g:decide (0<=i) && decide (i<(n:Int)) with
        | false=>rw [g] at hc;cases hc
        | true=>
          rw [g] at hc;simp only [qg] at hc;simp only [qk,qbd] at g;have hd:=l.get hd;have f:=l.get f;obtain ⟨b,off',hv,hr⟩:=kn3 (Sim.eval_tmps ht x) p hc;have h:=Sim.eval_tmps ht y;rw [hy] at h;have j:=h.atom;refine kad w _ ?_ ⟨kae _,hr.here⟩;simp [execOp,m,hv,j,Instr.indexAt,asIntOf,run_underlying (hd.arr hk),Instr.sureAddr,g.1,g.2,f.size,kbg]
      · cases hc
    · cases hc
  · cases hc
end Go.Proofs.YtjnjipmjkkhdpaaGreatDoor
set_option linter.all false
namespace Go.Proofs.YtjnjipmjkkhdpaaGreatDoor
open Go Go.RowKit
variable [Dr]
def kkg (size:Nat):Nat->List (Nat×AV)->Option (List FV)
  | _,[]=>some []
  | i,(j, .fz x)::l=>bif Nat.beq j i && (Nat.beq x.cells.length size && x.cells.all FV.single) then (kkg size (i+1) l).map (x::·) else none
  | _,_::_=>none
def kjf:AV->Option (List FV)
  | .fz (.lst _ _ xs)=>some xs
  | .lim _ _ xs=>some xs
  | _=>none
def lenOf:AV->Option Nat
  | .fz (.lst _ n _)=>some n
  | .lim _ n _=>some n
  | .fz (.atom (.slice none 0 0))=>some 0
  | _=>none
def nilV:Value := .slice none 0 0
variable {P:Program} {w w':World} {S S':Nat->Prop} {ψ:Env} {K:Nat->Prop} {T:List (TypeId×TD)} {o:Oper} {a:Act} {st:St} {t:TypeId} {d:TD}
theorem RF.lst_inv {v:Value} {size n:Nat} {xs:List FV} (h:RF S w v (.lst size n xs)):∃ (A:Option Addr) (cap:Nat) (css:Nat->List Value),v = .slice A n cap/\n=xs.length/\n<=cap/\cap<=9223372036854775807/\0<size /\
    (∀ (i:Nat) (x:FV),xs[i]?=some x->∃ b o,A=some ⟨b,o,none⟩/\S b/\At w b (o+i*size) (css i)) /\
    (∀ (i:Nat) (x:FV),xs[i]?=some x->(css i).length=size/\x.cells.length=size/\∀ y∈x.cells,y.single=true) /\
    (∀ (i:Nat) (x:FV) (j:Nat) (v:Value) (y:FV),xs[i]?=some x->(css i)[j]?=some v->x.cells[j]?=some y->RF S w v y):=by
  cases h with
  | lst css hn hc hm hs ha hl hr=>exact ⟨_,_,css,rfl,hn,hc,hm,hs,ha,hl,hr⟩
theorem kn2 {v:Value} {x:AV} {xs:List FV} (h:RV ψ K S w v x) (hx:kjf x=some xs):∃ A cap size n,n=xs.length/\v = .slice A n cap/\RF S w v (.lst size n xs):=by
  cases x with
  | fz x=>
    cases x with
    | lst size n ys=>
      simp only [kjf,qc] at hx;subst hx;have h:=h.inv;have a:=h;cases h with
      | lst css hn=>exact ⟨_,_,_,n,hn,rfl,a⟩
    | _=>cases hx
  | lim size n ys=>
    simp only [kjf,qc] at hx;subst hx;cases h with
    | lim h=>
      have a:=h;cases h with
      | lst css hn=>exact ⟨_,_,_,n,hn,rfl,a⟩
  | _=>cases hx
theorem k54 {v:Value} {x:AV} {n:Nat} (h:RV ψ K S w v x) (hx:lenOf x=some n):∃ A cap,v = .slice A n cap:=by
  unfold lenOf at hx;split at hx
  · injection hx with hx
    subst hx;have h:=h.inv;cases h with
    | lst css hn=>exact ⟨_,_,rfl⟩
  · injection hx with hx
    subst hx;cases h with
    | lim h=>exact ⟨_,_,rfl⟩
  · injection hx with hx
    subst hx;rw [h.atom];exact ⟨_,_,rfl⟩
  · cases hx
theorem kuc {x:Operand} {n:Nat} {e:TypeId} (b:o.op = .call { callee := .builtin .len,args:=#[x],argTypes:=#[t] }) (hd:TdOk P t d) (hk:d.kind = .slice e) (hx:lenOf (st.eval x)=some n):NStep P o st (.fz (.atom (.int .i64 n))):=by intro ψ S a w ht c;obtain ⟨A,cap,hv⟩:=k54 (Sim.eval_tmps ht x) hx;refine kad w (.int .i64 n) ?_ ⟨kae _, .fz (.atom rfl)⟩;simp [execOp,b,resolve,invoke,builtin,Builtin.len_,run_underlying (hd.slice hk),hv,goInt]
theorem kv8 {x:Operand} {s:BA} (b:o.op = .call { callee := .builtin .len,args:=#[x],argTypes:=#[t] }) (hd:TdOk P t d) (hk:d.kind = .str) (hx:st.eval x = .fz (.atom (.string s))):NStep P o st (.fz (.atom (.int .i64 s.size))):=by intro ψ S a w ht c;have h1:=Sim.eval_tmps ht x;rw [hx] at h1;refine kad w (.int .i64 s.size) ?_ ⟨kae _, .fz (.atom rfl)⟩;simp [execOp,b,resolve,invoke,builtin,Builtin.len_,run_underlying (hd.str hk),h1.atom,goInt]
theorem k0y {x y:Operand} {xs:List FV} {e:TypeId} {de:TD} {k:IntKind} {i:Int} {z:FV} {cs:List FV} (p:o.op = .indexAddr t x y) (hd:TdOk P t d) (hk:d.kind = .slice e) (f:TdOk P e de) (hx:kjf (st.eval x)=some xs)
    (g:∀ z∈xs,z.cells.length=de.size) (hy:st.eval y = .fz (.atom (.int k i))) (h0:0<=i) (hi:xs[i.toNat]?=some z) (hc:z.cells=cs):NStep P o st (.fz (.fp cs)):=by
  subst hc;intro ψ S a w ht B;obtain ⟨A,cap,size,n,q,hv,r⟩:=kn2 (Sim.eval_tmps ht x) hx;have h1:=Sim.eval_tmps ht y;rw [hy] at h1;have s:i.toNat<xs.length:=(qd.1 hi).1;obtain ⟨A',cap',css,h,u,hc,hm,hs,ha,hl,hr⟩:=r.lst_inv;obtain ⟨b,off,rfl,hS,l⟩:=ha _ _ hi;obtain ⟨l1,l2,l3⟩:=hl _ _ hi;have m:size=de.size:=by rw [<- g z (qm hi),l2]
  subst m;refine kad w (.pointer (some ⟨b,off+i.toNat*de.size,none⟩)) ?_ ⟨kae _,(RV.fz (.fp (css i.toNat) hS l (by rw [l1,l2]) (by omega) l3 fun j v y hv hy=>hr _ _ j v y hi hv hy)).here⟩;have c:i<(n:Int):=by omega
  simp [execOp,p,Instr.indexAt,h1.atom,asIntOf,run_underlying (hd.slice hk),h,h0,c,f.size,kbg]
theorem k4t {x y:Operand} {s:BA} {k:IntKind} {i:Int} {c:UInt8} (e:o.op = .index t x y) (hd:TdOk P t d) (hk:d.kind = .str) (hx:st.eval x = .fz (.atom (.string s))) (hy:st.eval y = .fz (.atom (.int k i))) (h0:0<=i) (hi:s[i.toNat]?=some c):
    NStep P o st (.fz (.atom (.int .u8 c.toNat))):=by
  intro ψ S a w ht f;have h1:=Sim.eval_tmps ht x;rw [hx] at h1;have b:=Sim.eval_tmps ht y;rw [hy] at b;refine kad w (.int .u8 c.toNat) ?_ ⟨kae _, .fz (.atom rfl)⟩;simp [execOp,e,Instr.index,h1.atom,b.atom,asIntOf,run_underlying (hd.str hk),h0,hi]
theorem k6x {x y:Operand} {yt:TypeId} {s u:BA} (c:o.op = .binOp .add t x y yt) (hx:st.eval x = .fz (.atom (.string s))) (hy:st.eval y = .fz (.atom (.string u))) (hl:s.size+u.size<=9223372036854775807):
    NStep P o st (.fz (.atom (.string (s++u)))):=by
  intro ψ S a w ht e;have h1:=Sim.eval_tmps ht x;rw [hx] at h1;have b:=Sim.eval_tmps ht y;rw [hy] at b;refine kad w (.string (s++u)) ?_ ⟨kae _, .fz (.atom rfl)⟩;have hm:IntKind.i64.max=9223372036854775807:=by decide
  have:¬ (((s.size+u.size:Nat):Int) > IntKind.i64.max):=by rw [hm];omega
  have d:(binOp .add t (.string s) (.string u)).run P w = .ok (.string (s++u)) w:=by show (Op.stringOp .add s u).run P w=_;unfold Op.stringOp;simp only [qj this];rfl
  simp [execOp,c,h1.atom,b.atom,d,kp5 (P:=P) (w:=w) (op := .add) (t:=t) (x:=x) (y:=y) (u := .string s) (v := .string u) rfl]
theorem kaas {sr:TypeId} {x:Operand} {k k':IntKind} {n:Int} (ds:TD) (b:o.op = .convert sr t x) (hs:∃ e,P.underlying sr=some e) (hd:P.underlying t=some (.int k)) (hx:st.eval x = .fz (.atom (.int k' n))):NStep P o st (.fz (.atom (.int k (k.wrap n)))):=by intro ψ S a w ht d;obtain ⟨e,c⟩:=hs;have h1:=Sim.eval_tmps ht x;rw [hx] at h1;refine kad w (.int k (k.wrap n)) ?_ ⟨kae _, .fz (.atom rfl)⟩;cases e <;> simp [execOp,b,h1.atom,convert,run_underlying c,run_underlying hd,Conv.intToInt]
theorem k5f {f:FuncId} {cap:Array Operand} (c:o.op = .makeFunc (.func f) #[] cap):NStep P o st (.fn f (cap.toList.map st.eval)):=by
  intro ψ S a w ht d;refine kad w (.func (.func f) #[] (cap.map a.eval)) ?_ ⟨kae _,(RV.fn (by simp) fun i v x hv hx=>?_).here⟩
  · simp [execOp,c,Instr.makeFunc]
  · simp only [Array.getElem?_map,qn,ql,qal] at hv hx
    obtain ⟨y,hy,rfl⟩:=hv;obtain ⟨z,b,rfl⟩:=hx;rw [hy] at b;injection b with b;subst b;exact Sim.eval_tmps ht y
theorem k7k {f:FuncId} {fst:Array Operand} (c:o.op = .makeFunc (.func f) fst #[]):NStep P o st (.mth f (fst.toList.map st.eval)):=by
  intro ψ S a w ht d;refine kad w (.func (.func f) (fst.map a.eval) #[]) ?_ ⟨kae _,(RV.mth (by simp) fun i v x hv hx=>?_).here⟩
  · simp [execOp,c,Instr.makeFunc]
  · simp only [Array.getElem?_map,qn,ql,qal] at hv hx
    obtain ⟨y,hy,rfl⟩:=hv;obtain ⟨z,b,rfl⟩:=hx;rw [hy] at b;injection b with b;subst b;exact Sim.eval_tmps ht y
theorem kqt {size:Nat}:∀ {i:Nat} {l:List (Nat×AV)} {xs:List FV},kkg size i l=some xs->l=(xs.zipIdx i).map (fun p=>(p.2,AV.fz p.1))/\∀ x∈xs,x.cells.length=size/\∀ y∈x.cells,y.single=true
  | i,[],xs,h=>by simp only [kkg,qc] at h;subst h;exact ⟨rfl,fun x hx=>by cases hx⟩
  | i,(j,x)::l,xs,h=>by
    cases x with
    | fz x=>
      simp only [kkg] at h;cases a:(Nat.beq j i && (Nat.beq x.cells.length size && x.cells.all FV.single)) with
      | false=>rw [a] at h;cases h
      | true=>
        rw [a] at h;simp only [qg,qn] at h;obtain ⟨ys,b,rfl⟩:=h;simp only [qk] at a;obtain ⟨c,d,e⟩:=a;obtain rfl:=qe c;obtain ⟨h1,f⟩:=kqt b;refine ⟨by rw [h1];rfl,fun y hy=>?_⟩;rcases qaa.1 hy with rfl | hy
        · exact ⟨qe d,qq.1 e⟩
        · exact f y hy
    | _=>cases h
theorem k7o {n:Nat} {parts:Array (Nat×Operand)} {e:TypeId} {de:TD} {xs:List FV} (M:o.op = .buildSlice t n parts) (hd:TdOk P t d) (hk:d.kind = .slice e) (A:TdOk P e de) (f:0<de.size) (hn:xs.length=n) (T:n*de.size<=16777216)
    (hp:kkg de.size 0 (kb4 st parts)=some xs):NStep P o st (.lim de.size n xs):=by
  subst hn;intro ψ S a w ht U;obtain ⟨e1,e2⟩:=kkh ht parts;obtain ⟨p1,p2⟩:=kqt hp
  -- the parts' values
  obtain ⟨vs,r⟩:∃ vs:List Value,vs=parts.toList.map (fun p=>a.eval p.2):=⟨_,rfl⟩;have c:parts.toList.length=xs.length:=by have:(kb4 st parts).length=xs.length:=(by rw [p1];simp);simpa [kb4] using this
  have B:vs.length=xs.length:=by rw [r];simp at c ⊢; exact c
  have g:∀ (i:Nat) (x:FV),xs[i]?=some x->∃ v p,vs[i]?=some v/\parts.toList[i]?=some p/\p.1=i/\RF S w v x:=fun i x hx=>by have hi:i<parts.toList.length:=(by rw [c];exact (qd.1 hx).1);have N:(kb4 st parts)[i]?=some (i, .fz x):=(by rw [p1];simp [hx]);have s:parts.toList[i]?=some parts.toList[i]:=qa hi;have D:(parts.map fun (i,x)=>(i,a.eval x)).toList[i]?=some (parts.toList[i].1,a.eval parts.toList[i].2):=(by simp [s]);obtain ⟨r1,r2⟩:=e2 i _ _ D N;exact ⟨a.eval parts.toList[i].2,parts.toList[i],by rw [r,ql,s];rfl,s,r1,r2.inv⟩
  have E:(parts.map fun (i,x)=>(i,a.eval x)).toList=(vs.zipIdx 0).map (fun x=>(x.2,x.1)):=by
    apply List.ext_getElem?;intro i;by_cases hi:i<xs.length
    · obtain ⟨v,p,h1,K,O,_⟩:=g i xs[i] (qa hi)
      have:v=a.eval p.2:=(by rw [r,ql,K] at h1;simpa using h1.symm);simp only [Array.toList_map,ql,List.getElem?_zipIdx,h1,K,qa1,Nat.zero_add];rw [this,O]
    · rw [qa5 (by simp at c ⊢; omega),qa5 (by simp [B];omega)]
  have b:∀ v∈vs,v.cells.size=de.size:=fun v hv=>by obtain ⟨i,hi,rfl⟩:=qah.1 hv;obtain ⟨v,p,h1,_,_,F⟩:=g i xs[i] (qa (by omega));rw [qa hi] at h1;injection h1 with h1;rw [h1,(F.cells (p2 _ (qx _)).2).1,(p2 _ (qx _)).1]
  obtain ⟨z,G,Q⟩:=A.zero (P:=P) (w:=w);obtain ⟨cells,hcl⟩:∃ cells:Array Value,cells=(vs.flatMap fun v=>v.cells.toList).toArray:=⟨_,rfl⟩;have C:(Instr.buildSlice t xs.length (parts.map fun (i,x)=>(i,a.eval x))).run P w = .ok (.slice (some ⟨w.heap.size,0,none⟩) xs.length xs.length) (w.alloc (.cells cells e)):=by
    have H:¬ xs.length*de.size > 2 ^ 24:=(by omega);have k:∀ c0:Array Value,xs.length*de.size=c0.size->Instr.fill (fun i=>some (i*de.size,de.size)) c0 (parts.map fun (i,x)=>(i,a.eval x)).toList=some cells:=fun c0 I=>(by rw [E,Great.fill_whole f vs c0 b (by rw [B];exact I),hcl]);unfold Instr.buildSlice;rw [Sem.run_bind,run_underlying (hd.slice hk),Result.andThen_ok];simp only [Sem.run_bind,A.size,Result.andThen_ok,qj H];by_cases h0:xs.length*de.size=0
    · simp only [qr h0,Sem.run_bind,Sem.run_pure,Result.andThen_ok]
      rw [k]
      · rfl
      · simp
    · simp only [qj h0,Sem.run_bind,G,Result.andThen_ok,Sem.run_pure]
      rw [k]
      · rfl
      · simp
  refine kad (w.alloc (.cells cells e)) _ ?_ ⟨ka7 _ _, .lim (.lst (fun i=>(vs.getD i undef).cells.toList) rfl (qv _) ?_ f (fun i x hx=>⟨w.heap.size,0,rfl, .inr (qv _),fun j u J=>?_⟩) (fun i x hx=>?_) fun i x j v y hx hv hy=>?_)⟩
  · have l:=C
    simp only [execOp,M,Sem.run_bind];rw [show (parts.map fun (i,x)=>(i,a.eval x))=parts.map (fun x=>(x.1,a.eval x.2)) from rfl] at l;simp [l]
  · have:xs.length*1<=xs.length*de.size:=Nat.mul_le_mul_left _ f
    omega
  · have hi:=(qd.1 hx).1
    have m:vs.getD i undef=vs[i]:=(by simp [List.getD,qa (show i<vs.length by omega)]);rw [m] at J;have L:j<de.size:=(by have:=(qd.1 J).1;rw [qac,b _ (qx _)] at this;exact this);have q:=Great.flat_get f vs b (i*de.size+j);rw [show (i*de.size+j) / de.size=i by rw [Nat.mul_comm,Nat.mul_add_div f,Nat.div_eq_of_lt L];omega,show (i*de.size+j) % de.size=j by rw [Nat.mul_comm,Nat.mul_add_mod,Nat.mod_eq_of_lt L]] at q;rw [qa (show i<vs.length by omega)] at q;simp only [qb] at q;have R:(w.alloc (.cells cells e)).heap[w.heap.size]?=some (.cells cells e (0,0)):=heap_alloc_new w _;simp only [World.cell?,R,Nat.zero_add];simp only [Option.isSome_none,Bool.false_eq_true,if_false];rw [hcl];simp only [qbr];rw [q];simpa using J
  · have hi:=(qd.1 hx).1
    have m:vs.getD i undef=vs[i]:=(by simp [List.getD,qa (show i<vs.length by omega)]);have:=p2 x (qm hx);rw [m];exact ⟨by rw [qac,b _ (qx _)],this.1,this.2⟩
  · obtain ⟨u,p,h1,_,_,F⟩:=g i x hx
    have m:vs.getD i undef=u:=(by simp [List.getD,h1]);simp only [m] at hv;have:=(F.cells (p2 x (qm hx)).2).2.1 j v y (by simpa using hv) hy;exact (this.keep (Same.of_grow (ka7 _ _))).mono fun _ h => .inl h
end Go.Proofs.YtjnjipmjkkhdpaaGreatDoor
set_option linter.all false
namespace Go.Proofs.YtjnjipmjkkhdpaaGreatDoor
open Go Go.RowKit
variable [Dr]
def Env.set (ψ:Env) (id n:Nat) (v:Value):Env:=⟨fun i=>if i=id then n else ψ.len i,fun i=>if i=id then v else ψ.val i⟩
variable {P:Program} {F S0:Nat->Prop} {N0:Nat} {w w':World} {S S':Nat->Prop} {ψ:Env} {K:Nat->Prop} {T:List (TypeId×TD)} {o:Oper} {a:Act} {st:St} {t:TypeId} {d:TD} {heap:List (Nat×AObj)} {ids:List Nat} {id:Nat}
theorem kbf (n:Nat) (v:Value):(ψ.set id n v).len id=n:=by simp [Env.set]
theorem kaj (n:Nat) (v:Value):(ψ.set id n v).val id=v:=by simp [Env.set]
theorem kb5 (ψ:Env) {i:Nat} (h:i≠id) (n:Nat) (v:Value):(ψ.set id n v).len i=ψ.len i/\(ψ.set id n v).val i=ψ.val i:=by simp [Env.set,h]
theorem ka3 (h:id∉ids) (n:Nat) (v:Value):Ext (·∈ids) ψ (ψ.set id n v):=fun i hi=>by have a:i≠id:=fun e=>h (e ▸ hi);obtain ⟨h1,b⟩:=kb5 ψ a n v;exact ⟨by omega,fun _=>b⟩
theorem kos {n:Nat} {v:Value} (h:ψ.len id<n\/(ψ.len id=n/\v=ψ.val id)):Ext (·∈ids) ψ (ψ.set id n v):=fun i hi=>by
  by_cases a:i=id
  · subst a
    rw [kbf,kaj];rcases h with h | ⟨h1,b⟩
    · exact ⟨by omega,fun e=>by omega⟩
    · exact ⟨by omega,fun _=>b⟩
  · obtain ⟨h1,b⟩:=kb5 ψ a n v
    exact ⟨by omega,fun _=>b⟩
theorem Core.addB {n:Nat} {v:Value} {ob:AObj} (h:Core F S0 N0 heap ids ψ S w) (o:Grow w w') (p:id∉ids) (l:∀ b,Blk v b->w.heap.size<=b)
    (x:ObR (ψ.set id n v) (·∈id::ids) S w' id ob):Core F S0 N0 ((id,ob)::heap) (id::ids) (ψ.set id n v) S w':=by
  have hk:Same S w w':=Same.of_grow o;have c:∀ i,i∈ids->i≠id:=fun i hi e=>p (e ▸ hi);refine ⟨fun i o' g=>?_,fun i i' o' o'' b g d q j f=>?_,fun b l=>qbb (h.lt b l) o.size,h.s0,qar h.n0 o.size,fun b l=>qbb (h.fr b l) o.size⟩
  · rw [kab] at g
    by_cases r:id=i
    · subst r
      rw [qr rfl] at g;injection g with g;subst g;refine ⟨qt ..,x,fun b a=>?_⟩;rw [kaj] at a;have:=l b a;exact ⟨fun hs=>by have:=h.lt b hs;omega,fun y=>by have:=h.fr b y;omega, .inr (by have:=h.n0;omega)⟩
    · rw [qj r] at g
      obtain ⟨h1,m,t⟩:=h.obj i o' g;have s:=kb5 ψ (c i h1) n v;refine ⟨qf _ h1,m.keep (ka3 p n v) (fun _ h=>qf _ h) (fun _ h=>h) hk s fun b a=>o.block b (m.lt a),fun b a=>t b (by rw [s.2] at a;exact a)⟩
  · rw [kab] at g d
    by_cases r:id=i
    · subst r
      by_cases k:id=i'
      · exact q k
      · rw [qj k] at d
        obtain ⟨h1,m,t⟩:=h.obj i' o'' d;rw [kaj] at j;rw [(kb5 ψ (c i' h1) n v).2] at f;have:=l b j;have:=m.lt f;omega
    · rw [qj r] at g
      obtain ⟨h1,m,t⟩:=h.obj i o' g;rw [(kb5 ψ (c i h1) n v).2] at j;by_cases k:id=i'
      · subst k
        rw [kaj] at f;have:=l b f;have:=m.lt j;omega
      · rw [qj k] at d
        obtain ⟨u,z,A⟩:=h.obj i' o'' d;rw [(kb5 ψ (c i' u) n v).2] at f;exact h.inj i i' o' o'' b g d q j f
theorem Core.add {n:Nat} {v:Value} {ob:AObj} (h:Core F S0 N0 heap ids ψ S w) (f:Grow w w') (c:id∉ids) (g:∀ b,kap v=some b->w.heap.size<=b)
    (i:ObR (ψ.set id n v) (·∈id::ids) S w' id ob) (d:kha v=[]:=by rfl):Core F S0 N0 ((id,ob)::heap) (id::ids) (ψ.set id n v) S w':=
  h.addB f c (fun b a=>g b (by
    rcases a with a | ⟨u,e,_⟩
    · exact a
    · rw [d] at e;cases e)) i
theorem Core.upd {n:Nat} {v:Value} {ob ob':AObj} (h:Core F S0 N0 heap ids ψ S w) (y:kaa heap id=some ob) (r:w.heap.size<=w'.heap.size) (l:∀ k,k<w.heap.size->¬ Blk (ψ.val id) k->w'.heap[k]?=w.heap[k]?)
    (hx:ψ.len id<n\/(ψ.len id=n/\v=ψ.val id)) (o:∀ b,Blk v b->Blk (ψ.val id) b\/w.heap.size<=b) (C:ObR (ψ.set id n v) (·∈ids) S w' id ob'):
    Core F S0 N0 ((id,ob')::heap) ids (ψ.set id n v) S w'/\Same S w w'/\∀ b,F b->w'.heap[b]?=w.heap[b]?:=by
  obtain ⟨A,D,s⟩:=h.obj id ob y;have hk:Same S w w':=fun b o hl=>l b hl fun e=>(s b e).1 o;refine ⟨⟨fun i o' a=>?_,fun i i' o' o'' b m d p j f=>?_,fun b o=>qbb (h.lt b o) r,h.s0,qar h.n0 r,fun b o=>qbb (h.fr b o) r⟩,hk,fun b z=>l b (h.fr b z) fun e=>(s b e).2.1 z⟩
  · rw [kab] at a
    by_cases q:id=i
    · subst q
      rw [qr rfl] at a;injection a with a;subst a;refine ⟨A,C,fun b c=>?_⟩;rw [kaj] at c;rcases o b c with h1 | h1
      · exact s b h1
      · exact ⟨fun hs=>by have:=h.lt b hs;omega,fun z=>by have:=h.fr b z;omega, .inr (by have:=h.n0;omega)⟩
    · rw [qj q] at a
      obtain ⟨h1,t,B⟩:=h.obj i o' a;have u:=kb5 ψ (Ne.symm q) n v;refine ⟨h1,t.keep (kos hx) (fun _ h=>h) (fun _ h=>h) hk u fun b c=>l b (t.lt c) fun e=>h.inj i id o' ob b a y (Ne.symm q) c e,fun b c=>B b (by rw [u.2] at c;exact c)⟩
  · rw [kab] at m d
    by_cases q:id=i
    · subst q
      by_cases g:id=i'
      · exact p g
      · rw [qj g] at d
        obtain ⟨h1,t,B⟩:=h.obj i' o'' d;rw [kaj] at j;rw [(kb5 ψ (Ne.symm g) n v).2] at f;rcases o b j with x | x
        · exact h.inj id i' ob o'' b y d p x f
        · have:=t.lt f;omega
    · rw [qj q] at m
      obtain ⟨h1,t,B⟩:=h.obj i o' m;rw [(kb5 ψ (Ne.symm q) n v).2] at j;by_cases g:id=i'
      · subst g
        rw [kaj] at f;rcases o b f with x | x
        · exact h.inj i id o' ob b m y p j x
        · have:=t.lt j;omega
      · rw [qj g] at d
        obtain ⟨E,G,H⟩:=h.obj i' o'' d;rw [(kb5 ψ (Ne.symm g) n v).2] at f;exact h.inj i i' o' o'' b m d p j f
theorem kgj (ob:Obj) (a:∀ b,F b->b<w.heap.size):Fr F w (w.alloc ob):=Fr.of_grow a (ka7 w ob)
theorem k7p {e:TypeId} {x:Operand} {cells:List AV} (g:o.op = .box e x) (hx:(st.eval x).cells=cells) (h1:cells.all AV.single=true) (c:st.ids.contains id=false):
    StepA P o st (.ref id 0 0) ((id, .box e cells)::st.heap) (id::st.ids):=by
  subst hx;have hs:∀ y∈(st.eval x).cells,y.single=true:=qq.1 h1;have c:id∉st.ids:=by simpa using c
  intro F S0 N0 ψ S a w f;obtain ⟨e1,e2,e3⟩:=RV.cells (f.eval x) hs;have d:=f.core;refine kad (w.alloc (.cells (a.eval x).cells e)) (.pointer (some ⟨w.heap.size,0,none⟩)) ?_ ⟨ψ.set id 0 (.pointer (some ⟨w.heap.size,0,none⟩)),S,?_,?_,kgj _ d.fr,ka3 c _ _,fun _ h=>qf _ h,fun _ h=>h,Same.of_grow (ka7 _ _)⟩
  · simp [execOp,g,Instr.box,newVar,newRow]
  · refine d.add (ka7 _ _) c (fun b j=>by simp [kap] at j;omega) ⟨kbf _ _,w.heap.size,_,kaj _ _,heap_alloc_new w _,e1,hs,fun i v y hv hy=>?_⟩
    exact (e2 i v y hv hy).keep (ka3 c _ _) (fun _ h=>qf _ h) (fun _ h=>h) (Same.of_grow (ka7 _ _))
  · exact .ref (qt ..) (qaq _) rfl fun _=>⟨w.heap.size,by rw [kaj];rfl,rfl⟩
theorem ku1 {e:TypeId} {cells:List AV} (l:o.op = .alloc e) (hd:TdOk P e d) (m:knx d=some cells) (c:st.ids.contains id=false):
    StepA P o st (.ref id 0 0) ((id, .box e cells)::st.heap) (id::st.ids):=by
  have c:id∉st.ids:=by simpa using c
  intro F S0 N0 ψ S a w g;obtain ⟨z,j,k⟩:=hd.zero (P:=P) (w:=w);obtain ⟨z1,z2⟩:=kuz (S:=S) (K:=(·∈st.ids)) w ψ k m;have f:=g.core;refine kad (w.alloc (.cells z.cells e)) (.pointer (some ⟨w.heap.size,0,none⟩)) ?_ ⟨ψ.set id 0 (.pointer (some ⟨w.heap.size,0,none⟩)),S,?_,?_,kgj _ f.fr,ka3 c _ _,fun _ h=>qf _ h,fun _ h=>h,Same.of_grow (ka7 _ _)⟩
  · simp [execOp,l,Instr.alloc,j,newVar,newRow]
  · refine f.add (ka7 _ _) c (fun b n=>by simp [kap] at n;omega) ⟨kbf _ _,w.heap.size,_,kaj _ _,heap_alloc_new w _,z1.1,z2,fun i v y hv hy=>?_⟩
    exact (z1.2 i v y hv hy).keep (ka3 c _ _) (fun _ h=>qf _ h) (fun _ h=>h) (Same.of_grow (ka7 _ _))
  · exact .ref (qt ..) (qaq _) rfl fun _=>⟨w.heap.size,by rw [kaj];rfl,rfl⟩
theorem kgd (g:Nat) (cs:Array Value) (k:Nat) (h:k≠g):(w.setRow g cs).heap[k]?=w.heap[k]?:=by simp only [World.setRow,qbs];rw [qj (fun e=>h e.symm)]
theorem ke4 (g:Nat) {cs cs':Array Value} {e:TypeId} {fr:Nat×Nat} (h:w.heap[g]?=some (.cells cs e fr)):(w.setRow g cs').heap[g]?=some (.cells cs' e fr):=by simp [World.setRow,qbs,h]
theorem k0k {e:TypeId} {x y:Operand} {off:Nat} {cells ys:List AV} (I:o.op = .store t x y) (hd:TdOk P t d) (hx:st.eval x = .ref id 0 off) (B:kaa st.heap id=some (.box e cells)) (hy:(st.eval y).cells=ys) (hl:ys.length=d.size) (h1:ys.all AV.single=true)
    (C:off+ys.length<=cells.length):StepA P o st .any ((id, .box e (kbw cells off ys))::st.heap) st.ids:=by
  subst hy;have hs:∀ z∈(st.eval y).cells,z.single=true:=qq.1 h1;intro F S0 N0 ψ S a w r;obtain ⟨e1,e2,e3⟩:=RV.cells (r.eval y) hs;have f:=r.core;obtain ⟨J,⟨h0,b,cs,g,E,s,j,hr⟩,G⟩:=f.obj id _ B;have hv:=r.eval x;rw [hx] at hv;have H:a.eval x = .pointer (some ⟨b,off,none⟩):=by
    generalize a.eval x=u at hv;cases hv with
    | ref hK hn h1 hv=>
      obtain ⟨b',A,rfl⟩:=hv h0.symm;rw [g] at A;simp only [kap,qc] at A;rw [A]
  have hst:=run_storeCells_at (P:=P) b off e (a.eval y).cells.toList 0 cs w E (by simp [e1,s];omega) e3;simp only [Nat.add_zero,qac] at hst;obtain ⟨new,l⟩:∃ new:Array Value,new=(cs.toList.take off++(a.eval y).cells.toList++cs.toList.drop (off+(a.eval y).cells.size)).toArray:=⟨_,rfl⟩;rw [<- l] at hst;have D:new.toList=kbw cs.toList off (a.eval y).cells.toList:=by rw [l];simp [kbw,qbi]
  have K:(w.setRow b new).heap.size=w.heap.size:=by simp [World.setRow]
  have m:∀ k,k<w.heap.size->¬ Blk (ψ.val id) k->(w.setRow b new).heap[k]?=w.heap[k]?:=fun k _ hk=>kgd b new k fun e=>hk (.of (by rw [g,e];rfl));have p:ψ.set id 0 (ψ.val id)=ψ:=by
    unfold Env.set;congr 1
    · funext i;split
      · rename_i h;rw [h,h0]
      · rfl
    · funext i;split
      · rename_i h;rw [h]
      · rfl
  have hk:Same S w (w.setRow b new):=fun k hk hl=>m k hl fun e=>(G k e).1 hk;obtain ⟨c1,c2,c3⟩:=f.upd (n:=0) (v:=ψ.val id) (w':=w.setRow b new) (ob' := .box e (kbw cells off (st.eval y).cells)) B (by omega) m (.inr ⟨h0,rfl⟩) (fun b E => .inl E) (by
    rw [p];have q:off+(a.eval y).cells.toList.length<=cs.toList.length:=(by simp [e1,s];omega);refine ⟨h0,b,new,g,ke4 b E,?_,fun z c=>?_,fun i v z hv c=>?_⟩
    · rw [<- qac,D,kg0 _ _ _ q,kg0 _ _ _ C];simpa using s
    · unfold kbw at c
      simp only [qaz] at c;rcases c with c | c | c
      · exact j z (qa4 c)
      · exact hs z c
      · exact j z (qbe c)
    · rw [<- qal,D,ki7 _ _ _ q] at hv
      rw [ki7 _ _ _ C] at c;simp only [qac,e1] at hv;split at hv
      · rename_i hi
        rw [qr hi] at c;exact (e2 _ v z (by simpa using hv) c).keep Ext.refl (fun _ h=>h) (fun _ h=>h) hk
      · rename_i hi
        rw [qj hi] at c;exact (hr _ v z (by simpa using hv) c).keep Ext.refl (fun _ h=>h) (fun _ h=>h) hk)
  rw [p] at c1;refine kin (w.setRow b new) ?_ ⟨ψ,S,c1, .any,⟨rfl,rfl,rfl,by omega,c3,fun _=>qv _⟩,Ext.refl,fun _ h=>h,fun _ h=>h,c2⟩;simp only [execOp,I,Instr.storeAt,H,Instr.sureAddr,storeVar,hd.size,Sem.run_bind,Sem.run_pure,Result.andThen_ok];rw [qj (by rw [e1,hl];simp)];simp [hst]
end Go.Proofs.YtjnjipmjkkhdpaaGreatDoor
set_option linter.all false
namespace Go.Proofs.YtjnjipmjkkhdpaaGreatDoor
open Go Go.RowKit
variable [Dr]
variable {P:Program} {F S0:Nat->Prop} {N0:Nat} {w w':World} {S S':Nat->Prop} {ψ:Env} {K:Nat->Prop} {T:List (TypeId×TD)} {o:Oper} {a:Act} {st:St} {t:TypeId} {d:TD} {heap:List (Nat×AObj)} {ids:List Nat} {id:Nat}
def RowR (S:Nat->Prop) (w:World) (size:Nat) (xs:List FV) (cs:List Value):Prop:=
  ∀ (i:Nat) (x:FV) (j:Nat) (v:Value) (y:FV),xs[i]?=some x->cs[i*size+j]?=some v->x.cells[j]?=some y->RF S w v y
def ElR (size:Nat) (xs:List FV):Prop:=∀ x∈xs,x.cells.length=size/\∀ y∈x.cells,y.single=true
theorem RowR.append {size:Nat} {xs ys:List FV} {cs news:List Value} (hs:0<size) (h:RowR S w size xs cs) (k:RowR S w size ys news) (hl:cs.length=xs.length*size) (hx:ElR size xs):RowR S w size (xs++ys) (cs++news):=by
  intro i x j v y hi hv hy;by_cases a:i<xs.length
  · rw [qab a] at hi
    have b:j<size:=(by have:=(qd.1 hy).1;rw [(hx x (qm hi)).1] at this;exact this);have:(i+1)*size<=xs.length*size:=qan _ a;rw [qaw] at this;rw [qab (by omega)] at hv;exact h i x j v y hi hv hy
  · rw [qad (by omega)] at hi
    have:xs.length*size<=i*size:=qan _ (by omega);rw [qad (by omega),hl,show i*size+j - xs.length*size=(i - xs.length)*size+j by rw [Nat.sub_mul];omega] at hv;exact k _ x j v y hi hv hy
theorem RowR.keep {size:Nat} {xs:List FV} {cs:List Value} (h:RowR S w size xs cs) (hk:Same S w w'):RowR S w' size xs cs:=fun i x j v y h1 a b=>(h i x j v y h1 a b).keep hk
theorem k9v {e:TypeId} {de:TD} {t:TypeId} (ty:TypeId) (ht:P.underlying t=some (.slice e)) (G:TdOk P e de) (o:0<de.size) (H:de.zero.length=de.size) {v s:Value} {n m:Nat} {cs:List Value} {zs:List FV} (a:w.ownsRow 0 e de.size v n cs) (hs:RF S w s (.lst de.size m zs)) (I:n+zs.length<=9223372036854775807) (f:(n+zs.length)*de.bytes<=140737488355328):
    ∃ v' w' news,(Builtin.append_ #[t,t] ty #[v,s]).run P w = .ok v' w'/\w'.ownsRow 0 e de.size v' (n+zs.length) (cs++news)/\w.grownBy w' v.ownBlock/\(v'.ownBlock=v.ownBlock\/v'.ownBlock=some w.heap.size)/\news.length=zs.length*de.size /\
      RowR S w de.size zs news/\ElR de.size zs/\(zs=[]->v'=v):=by
  obtain ⟨A,cap,css,rfl,rfl,hc,hm,_,ha,hl,hr⟩:=hs.lst_inv;have k:ElR de.size zs:=fun x hx=>by obtain ⟨i,hi,rfl⟩:=qah.1 hx;exact (hl i _ (qa hi)).2
  obtain ⟨⟨i,z,hi,p,q,r,J⟩,_⟩:=G;have B:z.cells.size=de.size:=by rw [<- qac,J,H]
  by_cases C:zs=[]
  · subst C
    cases A with
    | none=>exact ⟨v,w,[],kr5 0 t ty e i de.size ht hi v n cs a cap,by simpa using a,World.grownBy.refl w _, .inl rfl,by simp,(fun i x j v y h=>by simp at h),k,fun _=>rfl⟩
    | some ad=>
      obtain ⟨v',w',d,F,K,U,L⟩:=run_append_own_at (P:=P) w 0 t ty e i z de.size de.bytes ht hi r p q B o v n cs a ad 0 cap [] (by simp) (fun j u h=>by simp at h) (by simp) (by unfold maxLen;simp at I;omega) (by simpa using f) (by omega);have M:v'=v:=by
        have hn:(Builtin.append_ #[t,t] ty #[v, .slice (some ad) 0 cap]).run P w = .ok v w:=by
          rcases a.2 with ⟨rfl,rfl⟩ | ⟨g,cap',cur,rfl,_,_,N,_⟩
          · simp [Builtin.append_,run_underlying ht,sizeOf,typeInfo,hi,Builtin.lenOf,Builtin.firstCells,loadCells,loadCellsFrom]
          · simp [Builtin.append_,run_underlying ht,sizeOf,typeInfo,hi,Builtin.lenOf,Builtin.firstCells,N,storeCells,loadCells,loadCellsFrom]
        rw [hn] at d;injection d with h1 F;exact h1.symm
      exact ⟨v',w',[],d,by simpa using F,K,L,by simp,(fun i x j v y h=>by simp at h),k,fun _=>M⟩
  · obtain ⟨y0,ys,rfl⟩:∃ y0 ys,zs=y0::ys:=by
      cases zs with
      | nil=>exact absurd rfl C
      | cons y ys=>exact ⟨y,ys,rfl⟩
    obtain ⟨b,off,rfl,_,_⟩:=ha 0 y0 rfl;obtain ⟨news,hn,l,T⟩:=kvi (b:=b) (w:=w) (size:=de.size) (Q:=fun c y=>(∀ j v z,c[j]?=some v->y.cells[j]?=some z->RF S w v z)/\(∀ u∈c,u.oneCell'=true)) (y0::ys) off fun i y hy=>(by obtain ⟨b',o',hA,_,l⟩:=ha i y hy;injection hA with hA;injection hA with e1 e2;subst e1 e2;obtain ⟨l1,l2,l3⟩:=hl i y hy;refine ⟨css i,l,l1,fun j v z hv o=>hr i y j v z hy hv o,fun u O=>?_⟩;obtain ⟨j,D,rfl⟩:=qah.1 O;have E:j<y.cells.length:=(by omega);exact (hr i y j _ _ hy (qa D) (qa E)).one (l3 _ (qx E)));have h1:∀ u∈news,u.oneCell'=true:=(by intro u O;obtain ⟨j,D,rfl⟩:=qah.1 O;have R:j / de.size<(y0::ys).length:=(by rw [Nat.div_lt_iff_lt_mul o];omega);refine (T (j / de.size) _ (qa R)).2 _ ?_;rw [qbm];refine ⟨j % de.size,?_⟩;rw [qw,qr (Nat.mod_lt _ o),qag,show j / de.size*de.size+j % de.size=j by rw [Nat.mul_comm];exact Nat.div_add_mod j de.size];exact qa D);obtain ⟨v',w',d,F,K,U,L⟩:=run_append_own_at (P:=P) w 0 t ty e i z de.size de.bytes ht hi r p q B o v n cs a ⟨b,off,none⟩ (y0::ys).length cap news hn
      (fun j u h=>by rw [kbg];exact l j u h) h1 (by unfold maxLen;omega) f (by omega)
    refine ⟨v',w',news,d,F,K,L,hn,fun i x j v y hx hv hy=>?_,k,fun h=>by cases h⟩;have D:j<de.size:=(by have:=(qd.1 hy).1;rw [(k x (qm hx)).1] at this;exact this);refine (T i x hx).1 j v y ?_ hy;rw [qw,qr D,qag];exact hv
theorem k1j {v:Value} {e:TypeId} {size n:Nat} {cs:List Value} (h:w.ownsRow 0 e size v n cs):kap v=v.ownBlock:=by rcases h.2 with ⟨rfl,_⟩ | ⟨g,cap,cur,rfl,_⟩ <;> rfl
theorem krm {v:Value} {e:TypeId} {size n b:Nat} {cs:List Value} (h:w.ownsRow 0 e size v n cs) (a:v.ownBlock=some b):Blk v b := .of (by rw [k1j h];exact a)
theorem k0w {v:Value} {e:TypeId} {size n b:Nat} {cs:List Value} (h:w.ownsRow 0 e size v n cs) (a:Blk v b):v.ownBlock=some b:=by rw [<- k1j h];rcases h.2 with ⟨rfl,_⟩ | ⟨g,cap,cur,rfl,_⟩ <;> exact a.sl
theorem k0q {v:Value} {e:TypeId} {size n:Nat} {cs:List Value} (h:w.ownsRow 0 e size v n cs):v.oneCell'=true:=by rcases h.2 with ⟨rfl,_⟩ | ⟨g,cap,cur,rfl,_⟩ <;> rfl
theorem k50 {x y:Operand} {e:TypeId} {de:TD} {n m:Nat} (xs zs:List FV) (Z:o.op = .call { callee := .builtin .append,args:=#[x,y],argTypes:=#[t,t] }) (hd:TdOk P t d) (hk:d.kind = .slice e) (L:TdOk P e de) (M:0<de.size) (N:de.zero.length=de.size) (hx:st.eval x = .row id n) (C:kaa st.heap id=some (.frow e de.size xs)) (hn:n=xs.length) (hy:st.eval y = .fz (.lst de.size m zs)\/st.eval y = .lim de.size m zs) (D:(xs.length+zs.length)*(de.bytes+1)<=140737488355328):
    StepA P o st (.row id (xs++zs).length) ((id, .frow e de.size (xs++zs))::st.heap) st.ids:=by
  subst hn;intro F S0 N0 ψ S a w r;have l:=r.core;obtain ⟨O,⟨h0,E,cs,g,G,hr⟩,Q⟩:=l.obj id _ C;have hv:=r.eval x;rw [hx] at hv;have R:a.eval x=ψ.val id:=by
    generalize a.eval x=u at hv;cases hv with
    | row hK hn h1 hv=>exact hv h0.symm
  have T:RF S w (a.eval y) (.lst de.size m zs):=by
    have hv:=r.eval y;rcases hy with hy | hy
    · rw [hy] at hv;exact hv.inv
    · rw [hy] at hv
      generalize a.eval y=u at hv;cases hv with
      | lim h=>exact h
  have s:=D;rw [Nat.mul_add,qbg] at s;obtain ⟨v',w',news,p,f,c,H,aa,U,I,J⟩:=k9v o.type (hd.slice hk) L M N g T (by omega) (by omega);have V:(xs++zs).length=xs.length+zs.length:=qy;have K:ψ.len id<(xs++zs).length\/(ψ.len id=(xs++zs).length/\v'=ψ.val id):=by
    by_cases A:zs=[]
    · refine .inr ⟨by rw [h0,A];simp,J A⟩
    · have:0<zs.length:=List.length_pos_iff.2 A
      exact .inl (by omega)
  have q:∀ k,k<w.heap.size->¬ Blk (ψ.val id) k->w'.heap[k]?=w.heap[k]?:=fun k hk X=>c.block k hk fun e=>X (krm g e.symm);have Y:Same S w w':=fun k hk hl=>q k hl fun e=>(Q k e).1 hk;obtain ⟨c1,c2,c3⟩:=l.upd (n:=(xs++zs).length) (v:=v') (w':=w') (ob' := .frow e de.size (xs++zs)) C c.size q K (fun b B=>by
      have B:=k0w f B;rcases H with h | h
      · exact .inl (krm g (h ▸ B))
      · rw [h] at B;injection B with B;exact .inr (by omega))
    ⟨kbf _ _,E,cs++news,by rw [kaj,V];exact f,fun z M=>(qaz.1 M).elim (G z) (I z),(RowR.append E (fun i x j v y h1 h2 h3=>hr i x j v y h1 h2 h3) U g.1 G).keep Y⟩
  refine kad w' v' ?_ ⟨_,S,c1, .row O (by rw [kbf];exact qv _) (k0q f) (fun _=>(kaj _ _).symm),⟨c.os,c.tape,c.output,c.size,c3,fun _=>kqc p⟩,kos K,fun _ h=>h,fun _ h=>h,c2⟩;simp only [execOp,Z,resolve,invoke,builtin,Sem.run_bind,Sem.run_pure,Result.andThen_ok,List.map_toArray,qba,List.map_nil,R,p]
theorem kg4 (id:Nat) (e:TypeId) (size t:Nat) (hx:st.get t = .fz (.atom (.slice none 0 0)):=by kernel_rfl) (c:st.ids.contains id=false:=by kernel_rfl) (d:0<size:=by decide):
    LeSt st { st with tmps:=(t, .row id 0)::st.tmps,heap:=(id, .frow e size [])::st.heap,ids:=id::st.ids }:=by
  have c:id∉st.ids:=by simpa using c
  intro F S0 N0 ψ S a w hs;have hadd:=hs.core.add (n:=0) (v := .slice none 0 0) (w':=w) (ob := .frow e size []) (kae _) c (fun b f=>by cases f) ⟨kbf _ _,d,[],by rw [kaj];exact ⟨by simp, .inl ⟨rfl,rfl⟩⟩,(fun x hx=>by cases hx),fun i x j v y h=>by simp at h⟩;refine ⟨ψ.set id 0 (.slice none 0 0),S,hs.defers,hs.size,fun k=>?_,hadd⟩;simp only [St.get,kaw];split
  · rename_i hk
    subst hk;have:=hs.tmps t;rw [hx] at this;rw [this.atom];exact .row (qt ..) (qaq _) rfl fun _=>(kaj _ _).symm
  · exact (hs.tmps k).keep (ka3 c _ _) (fun _ h=>qf _ h) (fun _ h=>h) (fun _ _ _=>rfl)
end Go.Proofs.YtjnjipmjkkhdpaaGreatDoor
