import Derived.Test.YtaimpcnpifoidaaGreatDoorSim
import Derived.Laws.CopyRow
import Derived.Laws.Rows
import Derived.Great.FillDense
set_option linter.unusedVariables false
set_option linter.unusedSimpArgs false
namespace Go.Proofs.YtaimpcnpifoidaaGreatDoor
open Go Go.RowKit
inductive TK where
  | bool
  | int (k:IntKind)
  | str
  | ptr (e:TypeId)
  | slice (e:TypeId)
  | map (k e:TypeId)
  | fn
  | ifc
  | arr (n:Nat) (e:TypeId)
  | st (fs:List (TypeId×Nat))
structure TD where
  size:Nat
  bytes:Nat
  kind:TK
  zero:List Value
def TK.agg:TK→Bool
  | .arr _ _=>true
  | .st _=>true
  | _=>false
def kap:TypeDesc→TK→Prop
  | .bool, .bool=>True
  | .int k, .int k'=>k=k'
  | .string, .str=>True
  | .pointer e, .ptr e'=>e=e'
  | .slice e, .slice e'=>e=e'
  | .map k e, .map k' e'=>k=k'∧e=e'
  | .func _ _ _, .fn=>True
  | .interface _, .ifc=>True
  | .array n e, .arr n' e'=>n=n'∧e=e'
  | .struct fs, .st gs=>fs.toList.map (fun f=>(f.type,f.offset))=gs
  | _,_=>False
def TdOk (P:Program) (t:TypeId) (d:TD):Prop:=
  (∃ i z,P.info? t=some i∧i.size=d.size∧i.bytes=d.bytes∧i.zero=some z∧z.cells.toList=d.zero)∧∃ e,P.underlying t=some e∧kap e d.kind
def ka3:List (TypeId×TD)→TypeId→Option TD
  | [],_=>none
  | (k,v)::l,t=>bif Nat.beq k t then some v else ka3 l t
def TOk (P:Program) (T:List (TypeId×TD)):Prop:=∀ p∈T,TdOk P p.1 p.2
theorem TOk.get {P:Program} {T:List (TypeId×TD)} (h:TOk P T) {t:TypeId} {d:TD} (ht:ka3 T t=some d):TdOk P t d:=by
  induction T with
  | nil=>cases ht
  | cons p l ih=>
    obtain ⟨k,v⟩:=p
    simp only [ka3] at ht
    by_cases hk:k=t
    · subst hk
      simp only [Nat.beq_refl,qd,qh] at ht
      subst ht
      exact h _ (qo ..)
    · rw [Nat.beq_eq_false hk] at ht
      exact ih (fun p hp=>h p (qk _ hp)) ht
def intV (k:IntKind) (op:BinOp) (a b:Int):Option Value:=match op with
  | .add=>some (.int k (k.wrap (a+b)))
  | .sub=>some (.int k (k.wrap (a - b)))
  | .mul=>some (.int k (k.wrap (a*b)))
  | .quo=>if b=0 then none else some (.int k (k.wrap (a.tdiv b)))
  | .rem=>if b=0 then none else some (.int k (a.tmod b))
  | .and=>some (.int k (k.wrap (BitVec.ofInt k.bits a &&& BitVec.ofInt k.bits b).toNat))
  | .or=>some (.int k (k.wrap (BitVec.ofInt k.bits a ||| BitVec.ofInt k.bits b).toNat))
  | .xor=>some (.int k (k.wrap (BitVec.ofInt k.bits a ^^^ BitVec.ofInt k.bits b).toNat))
  | .andNot=>some (.int k (k.wrap (BitVec.ofInt k.bits a &&& ~~~BitVec.ofInt k.bits b).toNat))
  | .eql=>some (.bool (a == b))
  | .neq=>some (.bool (a != b))
  | .lss=>some (.bool (decide (a<b)))
  | .leq=>some (.bool (decide (a≤b)))
  | .gtr=>some (.bool (decide (b<a)))
  | .geq=>some (.bool (decide (b≤a)))
  | _=>none
def shV (k:IntKind) (op:BinOp) (a b:Int):Option Value:=match op with
  | .shl=>if b<0 then none else some (.int k (k.wrap (a*2 ^ (min b.toNat k.bits))))
  | .shr=>if b<0 then none else some (.int k (a.fdiv (2 ^ (min b.toNat k.bits))))
  | _=>none
def strV (op:BinOp) (x y:BA):Option Value:=match op with
  | .eql=>some (.bool (x.toList == y.toList))
  | .neq=>some (.bool !(x.toList == y.toList))
  | .lss=>some (.bool (Op.bytesLess x.toList y.toList))
  | .leq=>some (.bool (Op.bytesLess x.toList y.toList || x.toList == y.toList))
  | .gtr=>some (.bool !(Op.bytesLess x.toList y.toList || x.toList == y.toList))
  | .geq=>some (.bool !(Op.bytesLess x.toList y.toList))
  | _=>none
def binV (bt:Bool) (op:BinOp):Value→Value→Option Value
  | .int k a, .int k' b=>match op with
    | .shl=>shV k .shl a b
    | .shr=>shV k .shr a b
    | op=>if k=k' then intV k op a b else none
  | .string x, .string y=>strV op x y
  | .bool x, .bool y=>match bt,op with
    | true, .eql=>some (.bool (x == y))
    | true, .neq=>some (.bool (!(x == y)))
    | _,_=>none
  | _,_=>none
def unV (op:UnOp):Value→Option Value
  | .int k n=>match op with
    | .neg=>some (.int k (k.wrap (0 - n)))
    | .xor=>some (.int k (k.wrap (BitVec.ofInt k.bits (if k.signed then -1 else k.max) ^^^ BitVec.ofInt k.bits n).toNat))
    | _=>none
  | .bool b=>match op with
    | .not=>some (.bool !b)
    | _=>none
  | _=>none
section
variable {P:Program} {w w':World} {S S':Nat→Prop} {ψ:Env} {K:Nat→Prop} {T:List (TypeId×TD)} {o:Oper} {a:Act} {st:St}
theorem kacv {op:BinOp} {t:TypeId} {k:IntKind} {a b:Int} {v:Value} (hs:op ≠ .shl∧op ≠ .shr) (h:intV k op a b=some v):(binOp op t (.int k a) (.int k b)).run P w = .ok v w:=by
  cases op <;> simp only [intV] at h <;> first
    | exact absurd rfl hs.1
    | exact absurd rfl hs.2
    | (injection h with h;subst h;simp only [binOp,ne_eq,not_true_eq_false,if_false];rfl)
    | (split at h
       · cases h
       · rename_i hz
         injection h with h;subst h;simp only [binOp,ne_eq,not_true_eq_false,if_false,Op.intDiv,if_neg hz];rfl)
theorem k4o {op:BinOp} {t:TypeId} {k k':IntKind} {a b:Int} {v:Value} (hs:op = .shl∨op = .shr) (h:shV k op a b=some v):(binOp op t (.int k a) (.int k' b)).run P w = .ok v w:=by
  rcases hs with rfl | rfl <;> simp only [shV] at h <;>
    (split at h
     · cases h
     · rename_i hlt
       injection h with h;subst h;simp only [binOp,Op.shift,if_neg hlt];rfl)
theorem kacy {op:BinOp} {t:TypeId} {x y:BA} {v:Value} (h:strV op x y=some v):(binOp op t (.string x) (.string y)).run P w = .ok v w:=by
  cases op <;> simp only [strV] at h <;> first
    | (injection h with h;subst h;rfl)
    | cases h
theorem kafi {bt:Bool} {op:BinOp} {t:TypeId} {x y v:Value} (hb:bt=true→P.underlying t=some .bool) (h:binV bt op x y=some v):(binOp op t x y).run P w = .ok v w:=by
  cases x <;> cases y <;> simp only [binV] at h <;> try cases h
  case int.int k a k' b=>
    by_cases h1:op = .shl
    · subst h1;exact k4o (.inl rfl) h
    by_cases h2:op = .shr
    · subst h2;exact k4o (.inr rfl) h
    have h':(if k=k' then intV k op a b else none)=some v:=by
      cases op <;> first | exact h | exact absurd rfl h1 | exact absurd rfl h2
    split at h'
    · rename_i hk
      subst hk
      exact kacv ⟨h1,h2⟩ h'
    · cases h'
  case string.string x y=>exact kacy h
  case bool.bool x y=>
    cases bt with
    | false=>cases h
    | true=>
      have hu:=hb rfl
      have he:(Op.equal t (.bool x) (.bool y)).run P w = .ok (x == y) w:=by
        unfold Op.equal
        rw [show Op.maxDepth=9999+1 from rfl,Op.equalIn,Sem.run_bind,run_underlying hu,Result.andThen_ok]
        rfl
      cases op <;> simp only at h <;> first
        | (injection h with h;subst h;simp only [binOp,Sem.run_bind,he,Result.andThen_ok];rfl)
        | cases h
theorem kaja {op:UnOp} {x v:Value} (h:unV op x=some v):(Op.unary op x).run P w = .ok v w:=by
  cases x <;> simp only [unV] at h <;> try cases h
  case int k n=>cases op <;> simp at h <;> (subst h;simp [Op.unary,Op.intArith,Op.intBits])
  case bool b=>cases op <;> simp at h <;> (subst h;simp [Op.unary])
theorem kafr {bt:Bool} {op:BinOp} {x y v:Value} (h:binV bt op x y=some v):v.oneCell'=true:=by
  cases x <;> cases y <;> simp only [binV] at h <;> try cases h
  case int.int k a k' b=>
    cases op <;> simp only [shV,intV] at h <;> (repeat' split at h) <;> first
      | (injection h with h;subst h;rfl)
      | cases h
  case string.string x y=>cases op <;> simp only [strV] at h <;> first | (injection h with h;subst h;rfl) | cases h
  case bool.bool x y=>cases bt <;> cases op <;> first | (injection h with h;subst h;rfl) | cases h
theorem kai1 {op:UnOp} {x v:Value} (h:unV op x=some v):v.oneCell'=true:=by
  cases x <;> cases op <;> simp [unV] at h <;> (subst h;rfl)
theorem kam {R:Value→World→Prop} {v:Value} (h:(execOp a.eval o).run P w = .ok (.value v) w') (hr:R v w'):khr P o a w R:=by
  unfold khr;rw [h];exact hr
theorem ktj {R:Value→World→Prop} (h:(execOp a.eval o).run P w = .ok .skip w') (hr:R undef w'):khr P o a w R:=by
  unfold khr;rw [h];exact hr
theorem RV.here {v:Value} {x:AV} (h:RV ψ K S w v x):RV ψ K (fun b=>S b∨w.heap.size≤b) w v x:=h.mono (fun _ h=>h) fun _ h => .inl h
def kagx:Value→Bool
  | .int ..=>true
  | .string _=>true
  | .bool _=>true
  | _=>false
theorem ku2 {op:BinOp} {t:TypeId} {x y:Operand} {u v:Value} (hu:kagx u=true):(eqGuard op t x y u v).run P w = .ok () w:=by
  unfold eqGuard
  cases u <;> cases hu <;> cases op <;> simp
theorem k9p {bt:Bool} {op:BinOp} {u v r:Value} (h:binV bt op u v=some r):kagx u=true:=by
  cases u <;> cases v <;> first | rfl | cases h
theorem n_bin {op:BinOp} {t yt:TypeId} {x y:Operand} {u v r:Value} (bt:Bool) (hb:bt=true→P.underlying t=some .bool) (ho:o.op = .binOp op t x y yt) (hx:st.eval x = .fz (.atom u)) (hy:st.eval y = .fz (.atom v)) (h:binV bt op u v=some r):NStep P o st (.fz (.atom r)):=by
  intro ψ S a w ht _
  have h1:=Sim.eval_tmps ht x
  have h2:=Sim.eval_tmps ht y
  rw [hx] at h1
  rw [hy] at h2
  refine kam (w':=w) (v:=r) ?_ ⟨kaj _, .fz (.atom (kafr h))⟩
  simp [execOp,ho,h1.atom,h2.atom,kafi hb h,ku2 (k9p h)]
theorem n_un {op:UnOp} {t:TypeId} {x:Operand} {u r:Value} (ho:o.op = .unOp op t x) (hx:st.eval x = .fz (.atom u)) (h:unV op u=some r):NStep P o st (.fz (.atom r)):=by
  intro ψ S a w ht _
  have h1:=Sim.eval_tmps ht x
  rw [hx] at h1
  refine kam (w':=w) (v:=r) ?_ ⟨kaj _, .fz (.atom (kai1 h))⟩
  simp [execOp,ho,h1.atom,kaja h]
theorem kacn {x:Operand} (ho:o.op = .move x∨o.op = .assign x):NStep P o st (st.eval x):=by
  intro ψ S a w ht _
  refine kam (w':=w) (v:=a.eval x) ?_ ⟨kaj _,(Sim.eval_tmps ht x).here⟩
  rcases ho with ho | ho <;> simp [execOp,ho]
theorem kak0 {c x y:Operand} {b:Bool} (ho:o.op = .pick c x y) (hc:st.eval c = .fz (.atom (.bool b))):NStep P o st (bif b then st.eval x else st.eval y):=by
  intro ψ S a w ht _
  have h1:=Sim.eval_tmps ht c
  rw [hc] at h1
  refine kam (w':=w) (v:=bif b then a.eval x else a.eval y) ?_ ⟨kaj _,?_⟩
  · cases b <;> simp [execOp,ho,h1.atom,asBool]
  · cases b
    · exact (Sim.eval_tmps ht y).here
    · exact (Sim.eval_tmps ht x).here
end
end Go.Proofs.YtaimpcnpifoidaaGreatDoor
set_option linter.unusedVariables false
set_option linter.unusedSimpArgs false
namespace Go.Proofs.YtaimpcnpifoidaaGreatDoor
open Go Go.RowKit
def kro:List AV→Option (List FV)
  | []=>some []
  | .fz x::l=>(kro l).map (x::·)
  | _::_=>none
def aggA (xs:List AV):AV:=match kro xs with
  | some ys => .fz (.agg ys)
  | none => .agg xs
def tupA (xs:List AV):AV:=match kro xs with
  | some ys => .fz (.tup ys)
  | none => .tup xs
def kr5 (d:TD) (xs:List AV):Option AV:=bif d.kind.agg then (bif Nat.ble d.size xs.length then some (aggA (xs.take d.size)) else none) else xs.head?
def kl8 (st:St):AV→Option (List AV)
  | .fz (.fp cs)=>some (cs.map .fz)
  | .ref id n off=>match kab st.heap id with
    | some (.box _ cells)=>bif Nat.beq n 0 then some (cells.drop off) else none
    | _=>none
  | _=>none
section
variable {P:Program} {w w':World} {S S':Nat→Prop} {ψ:Env} {K:Nat→Prop} {T:List (TypeId×TD)} {o:Oper} {a:Act} {st:St} {t:TypeId} {d:TD}
theorem TdOk.size (h:TdOk P t d):(sizeOf t).run P w = .ok d.size w:=by
  obtain ⟨⟨i,z,h1,h2,_⟩,_⟩:=h
  simp [sizeOf,typeInfo,h1,h2]
theorem TdOk.info (h:TdOk P t d):(P.info? t).map (·.size)=some d.size:=by
  obtain ⟨⟨i,z,h1,h2,_⟩,_⟩:=h
  simp [h1,h2]
theorem TdOk.isAgg (h:TdOk P t d):(isAgg t).run P w = .ok d.kind.agg w:=by
  obtain ⟨_,e,h1,h2⟩:=h
  unfold Go.isAgg
  rw [Sem.run_bind,run_underlying h1]
  cases e <;> cases hk:d.kind <;> simp [kap,hk,TK.agg] at h2 ⊢
theorem TdOk.zero (h:TdOk P t d):∃ z,(zeroValue t).run P w = .ok z w∧z.cells.toList=d.zero:=by
  obtain ⟨⟨i,z,h1,h2,h3,h4,h5⟩,_⟩:=h
  exact ⟨z,by simp [zeroValue,typeInfo,h1,h4],h5⟩
theorem TdOk.strct {fs:List (TypeId×Nat)} (h:TdOk P t d) (hk:d.kind = .st fs):∃ gs:Array Field,(∀ w,(underlying t).run P w = .ok (.struct gs) w)∧gs.toList.map (fun f=>(f.type,f.offset))=fs:=by
  obtain ⟨_,e,h1,h2⟩:=h
  rw [hk] at h2
  cases e <;> simp [kap] at h2
  exact ⟨_,fun w=>run_underlying h1 w,h2⟩
theorem TdOk.arr {n e:Nat} (h:TdOk P t d) (hk:d.kind = .arr n e):P.underlying t=some (.array n e):=by
  obtain ⟨_,e',h1,h2⟩:=h
  rw [hk] at h2
  cases e' <;> simp [kap] at h2
  rw [h1,h2.1,h2.2]
theorem TdOk.slice {e:Nat} (h:TdOk P t d) (hk:d.kind = .slice e):P.underlying t=some (.slice e):=by
  obtain ⟨_,e',h1,h2⟩:=h
  rw [hk] at h2
  cases e' <;> simp [kap] at h2
  rw [h1,h2]
theorem TdOk.str (h:TdOk P t d) (hk:d.kind = .str):P.underlying t=some .string:=by
  obtain ⟨_,e',h1,h2⟩:=h
  rw [hk] at h2
  cases e' <;> simp [kap] at h2
  rw [h1]
theorem kue:∀ {xs:List AV} {ys:List FV},kro xs=some ys→xs=ys.map .fz
  | [],ys,h=>by simp [kro] at h;subst h;rfl
  | .fz x::l,ys,h=>by
    simp only [kro,qj] at h
    obtain ⟨zs,hz,rfl⟩:=h
    rw [kue hz];rfl
theorem RV.aggA {cs:Array Value} {xs:List AV} (h:cs.size=xs.length) (h1:∀ x∈xs,x.single=true) (hr:∀ (i:Nat) (v:Value) (x:AV),cs[i]?=some v→xs[i]?=some x→RV ψ K S w v x):RV ψ K S w (.agg cs) (aggA xs):=by
  unfold Go.Proofs.YtaimpcnpifoidaaGreatDoor.aggA
  cases hy:kro xs with
  | none=>exact .agg h h1 hr
  | some ys=>
    have:=kue hy
    subst this
    exact .fz (.agg (by simpa using h) (fun x hx=>h1 (.fz x) (by simp [hx])) fun i v x hv hx=>(hr i v (.fz x) hv (by simp [hx])).inv)
theorem RV.tupA {cs:Array Value} {xs:List AV} (h:cs.size=xs.length) (hr:∀ (i:Nat) (v:Value) (x:AV),cs[i]?=some v→xs[i]?=some x→RV ψ K S w v x):RV ψ K S w (.tuple cs) (tupA xs):=by
  unfold Go.Proofs.YtaimpcnpifoidaaGreatDoor.tupA
  cases hy:kro xs with
  | none=>exact .tup h hr
  | some ys=>
    have:=kue hy
    subst this
    exact .fz (.tup (by simpa using h) fun i v x hv hx=>(hr i v (.fz x) hv (by simp [hx])).inv)
def Cells (ψ:Env) (K:Nat→Prop) (S:Nat→Prop) (w:World) (b o:Nat) (xs:List AV):Prop:=
  ∃ cs:List Value,At w b o cs∧cs.length=xs.length∧(∀ x∈xs,x.single=true)∧∀ (i:Nat) (v:Value) (x:AV),cs[i]?=some v→xs[i]?=some x→RV ψ K S w v x
theorem kzb {v:Value} {x:AV} {xs:List AV} (hv:RV ψ (·∈st.ids) S w v x) (hO:∀ id o,kab st.heap id=some o→ObR ψ (·∈st.ids) S w id o) (h:kl8 st x=some xs):
    ∃ b o,v = .pointer (some ⟨b,o,none⟩)∧Cells ψ (·∈st.ids) S w b o xs:=by
  cases x with
  | fz x=>
    cases x with
    | fp cs=>
      simp only [kl8,qh] at h
      subst h
      cases hv with
      | fz hv=>
        cases hv with
        | @fp b o _ vs hS ha hl h0 h1 hr=>
          refine ⟨b,o,rfl,vs,ha,by simpa using hl,fun x hx=>?_,fun i v x hv hx=>?_⟩
          · simp only [qao] at hx
            obtain ⟨y,hy,rfl⟩:=hx
            exact h1 y hy
          · simp only [List.getElem?_map,qj] at hx
            obtain ⟨y,hy,rfl⟩:=hx
            exact .fz (hr i v y hv hy)
    | _=>cases h
  | ref id n off=>
    simp only [kl8] at h
    split at h
    · rename_i e cells ho
      cases hn:Nat.beq n 0 with
      | false=>rw [hn] at h;cases h
      | true=>
        rw [hn] at h
        simp only [qd,qh] at h
        subst h
        obtain rfl:=qr hn
        obtain ⟨h0,b,cs,h1,h2,h3,h4,h5⟩:=hO id _ ho
        cases hv with
        | ref hK hn' h1' hv'=>
          obtain ⟨b',hb',rfl⟩:=hv' h0.symm
          rw [h1] at hb'
          simp only [kb1,qh] at hb'
          subst hb'
          refine ⟨b,off,rfl,cs.toList.drop off,fun j u hu=>?_,by simp [h3],fun x hx=>h4 x (List.mem_of_mem_drop hx),fun i v x hv hx=>?_⟩
          · rw [List.getElem?_drop] at hu
            simp only [World.cell?,h2]
            simpa using hu
          · rw [List.getElem?_drop] at hv hx
            exact h5 _ v x (by simpa using hv) hx
    · cases h
  | _=>cases h
theorem kaav {x:Operand} {xs:List AV} {c:AV} (ho:o.op = .load t x) (hd:TdOk P t d) (hx:kl8 st (st.eval x)=some xs) (hc:kr5 d xs=some c):NStep P o st c:=by
  intro ψ S a w ht hO
  obtain ⟨b,off,hv,cs,hat,hl,h1,hr⟩:=kzb (Sim.eval_tmps ht x) hO hx
  unfold kr5 at hc
  cases hk:d.kind.agg with
  | false=>
    rw [hk] at hc
    simp only [qb] at hc
    cases xs with
    | nil=>cases hc
    | cons y ys=>
      simp only [List.head?_cons,qh] at hc
      subst hc
      have hc0:cs[0]?=some (cs[0]'(by simp at hl;omega)):=List.getElem?_eq_getElem _
      have hcell:w.cell? ⟨b,off,none⟩=some (cs[0]'(by simp at hl;omega)):=by simpa using hat 0 _ hc0
      refine kam (w':=w) (v:=cs[0]'(by simp at hl;omega)) ?_ ⟨kaj _,(hr 0 _ y hc0 rfl).here⟩
      simp [execOp,ho,hv,Instr.loadAt,Instr.sureAddr,loadVar,hd.isAgg,hk,hcell]
  | true=>
    rw [hk] at hc
    simp only [qd] at hc
    cases hle:Nat.ble d.size xs.length with
    | false=>rw [hle] at hc;cases hc
    | true=>
      rw [hle] at hc
      simp only [qd,qh] at hc
      subst hc
      have hle':=qac hle
      have hlen:(cs.take d.size).length=d.size:=by rw [qai];omega
      have hload:=run_loadCells_list (P:=P) w ⟨b,off,none⟩ (cs.take d.size) fun j v hj=>by
        rw [List.getElem?_take] at hj
        split at hj
        · have:=hat j v hj
          simp only [Addr.add]
          split
          · rename_i h0;subst h0;simpa using this
          · exact this
        · cases hj
      rw [hlen] at hload
      refine kam (w':=w) (v := .agg (cs.take d.size).toArray) ?_ ⟨kaj _,(RV.aggA (by simp [hl]) (fun x hx=>h1 x (List.mem_of_mem_take hx)) fun i v x hv hx=>?_).here⟩
      · simp [execOp,ho,hv,Instr.loadAt,Instr.sureAddr,loadVar,hd.isAgg,hk,hd.size,hload]
      · simp only [List.getElem?_toArray] at hv
        rw [List.getElem?_take] at hv hx
        split at hv
        · rename_i hi;rw [if_pos hi] at hx;exact hr i v x hv hx
        · cases hv
def kng (st:St) (off:Nat) (x:AV):Option AV:=match x with
  | .fz (.fp cs)=>match cs.drop off with
    | []=>none
    | y::ys=>some (.fz (.fp (y::ys)))
  | .ref id n o=>match kab st.heap id with
    | some (.box _ cells)=>bif Nat.beq n 0 then some (.ref id n (o+off)) else none
    | _=>none
  | _=>none
theorem kks (b o n:Nat):(⟨b,o,none⟩:Addr).add n=⟨b,o+n,none⟩:=by
  unfold Addr.add;split
  · rename_i h;subst h;rfl
  · rfl
theorem kwc {off:Nat} {v:Value} {x c:AV} (hv:RV ψ (·∈st.ids) S w v x) (hO:∀ id o,kab st.heap id=some o→ObR ψ (·∈st.ids) S w id o) (h:kng st off x=some c):
    ∃ b o,v = .pointer (some ⟨b,o,none⟩)∧RV ψ (·∈st.ids) S w (.pointer (some ⟨b,o+off,none⟩)) c:=by
  cases x with
  | fz x=>
    cases x with
    | fp cs=>
      simp only [kng] at h
      cases hv with
      | fz hv=>
        cases hv with
        | @fp b o _ vs hS ha hl h0 h1 hr=>
          split at h
          · cases h
          · rename_i y ys hd
            injection h with h
            subst h
            refine ⟨b,o,rfl, .fz ?_⟩
            rw [← hd]
            have hlen:off<cs.length:=by
              rcases qaz off cs.length with h' | h'
              · exact h'
              · rw [qaf h'] at hd;cases hd
            refine .fp (vs.drop off) hS (fun j u hu=>?_) (by simp [hl]) (by rw [qaq];omega) (fun x hx=>h1 x (List.mem_of_mem_drop hx)) fun i v x hv hx=>?_
            · rw [List.getElem?_drop] at hu
              have:=ha _ u hu
              rwa [← Nat.add_assoc] at this
            · rw [List.getElem?_drop] at hv hx
              exact hr _ v x hv hx
    | _=>cases h
  | ref id n off'=>
    simp only [kng] at h
    split at h
    · rename_i e cells ho
      cases hn:Nat.beq n 0 with
      | false=>rw [hn] at h;cases h
      | true=>
        rw [hn] at h
        simp only [qd,qh] at h
        subst h
        obtain rfl:=qr hn
        obtain ⟨h0,b,cs,h1,h2,h3,h4,h5⟩:=hO id _ ho
        cases hv with
        | ref hK hn' h1' hv'=>
          obtain ⟨b',hb',rfl⟩:=hv' h0.symm
          exact ⟨b',off',rfl, .ref hK hn' rfl fun _=>⟨b',hb',rfl⟩⟩
    · cases h
  | _=>cases h
theorem kaiw {s:TypeId} {x:Operand} {f:Nat} {fs:List (TypeId×Nat)} {ft:TypeId} {off:Nat} {df:TD} {c:AV} (ho:o.op = .fieldAddr s x f) (hd:TdOk P s d) (hk:d.kind = .st fs) (hf:fs[f]?=some (ft,off)) (hft:TdOk P ft df) (hz:df.size≠0)
    (hc:kng st off (st.eval x)=some c):NStep P o st c:=by
  intro ψ S a w ht hO
  obtain ⟨b,off',hv,hr⟩:=kwc (Sim.eval_tmps ht x) hO hc
  obtain ⟨gs,hu,hgs⟩:=hd.strct hk
  have hg:∃ g:Field,gs[f]?=some g∧g.type=ft∧g.offset=off:=by
    rw [← hgs,List.getElem?_map,qj] at hf
    obtain ⟨g,hg,he⟩:=hf
    simp only [qad] at he
    exact ⟨g,by simpa using hg,he.1,he.2⟩
  obtain ⟨g,hg,rfl,rfl⟩:=hg
  refine kam (w':=w) ?_ ⟨kaj _,hr.here⟩
  simp [execOp,ho,hv,Instr.fieldAt,hu,hg,Instr.sureAddr,fieldPlace,hft.size,hz,kks]
theorem kacx {x:Operand} {i:Nat} {c:AV} (ho:o.op = .extract x i) (hc:(match st.eval x with | .fz (.tup xs)=>(xs[i]?).map .fz | .tup xs=>xs[i]? | _=>none)=some c):NStep P o st c:=by
  intro ψ S a w ht hO
  have hv:=Sim.eval_tmps ht x
  have key:∃ (cs:Array Value) (v:Value),a.eval x = .tuple cs∧cs[i]?=some v∧RV ψ (·∈st.ids) S w v c:=by
    generalize st.eval x=y at hv hc
    generalize a.eval x=u at hv
    split at hc
    · rename_i xs
      have hv:=hv.inv
      cases hv with
      | @tup cs _ hl hr=>
        simp only [qj] at hc
        obtain ⟨z,hz,rfl⟩:=hc
        have hi:i<cs.size:=by rw [hl];exact (List.getElem?_eq_some_iff.1 hz).1
        exact ⟨cs,cs[i],rfl,by simp [hi], .fz (hr i _ z (by simp [hi]) hz)⟩
    · rename_i xs
      cases hv with
      | @tup cs _ hl hr=>
        have hi:i<cs.size:=by rw [hl];exact (List.getElem?_eq_some_iff.1 hc).1
        exact ⟨cs,cs[i],rfl,by simp [hi],hr i _ c (by simp [hi]) hc⟩
    · cases hc
  obtain ⟨cs,v,h1,h2,h3⟩:=key
  refine kam (w':=w) (v:=v) ?_ ⟨kaj _,h3.here⟩
  simp [execOp,ho,h1,Instr.extract,h2]
theorem k70 {x:Operand} {c:AV} (ho:o.op = .nilCheck x) (hc:kng st 0 (st.eval x)=some c):NStep P o st c:=by
  intro ψ S a w ht hO
  obtain ⟨b,off',hv,hr⟩:=kwc (Sim.eval_tmps ht x) hO hc
  refine kam (w':=w) ?_ ⟨kaj _,hr.here⟩
  simp [execOp,ho,hv]
end
end Go.Proofs.YtaimpcnpifoidaaGreatDoor
set_option linter.unusedVariables false
set_option linter.unusedSimpArgs false
namespace Go.Proofs.YtaimpcnpifoidaaGreatDoor
open Go Go.RowKit
def kig {α:Type} (cells:List α) (off:Nat) (xs:List α):List α:=cells.take off++(xs++cells.drop (off+xs.length))
def kwp (place:Nat→Option (Nat×Nat)) (cells:List AV):List (Nat×AV)→Option (List AV)
  | []=>some cells
  | (i,x)::rest=>match place i with
    | none=>none
    | some (off,size)=>bif Nat.beq x.cells.length size && (Nat.ble (off+size) cells.length && x.cells.all AV.single) then kwp place (kig cells off x.cells) rest else none
def zeroA (d:TD):Option (List AV):=bif d.zero.all (·.oneCell') then some (d.zero.map fun v => .fz (.atom v)) else none
section
variable {P:Program} {w w':World} {S S':Nat→Prop} {ψ:Env} {K:Nat→Prop} {T:List (TypeId×TD)} {o:Oper} {a:Act} {st:St} {t:TypeId} {d:TD}
def PW (ψ:Env) (K:Nat→Prop) (S:Nat→Prop) (w:World) (cs:Array Value) (xs:List AV):Prop:=
  cs.size=xs.length∧∀ (i:Nat) (v:Value) (x:AV),cs[i]?=some v→xs[i]?=some x→RV ψ K S w v x
theorem kse {α:Type} (cells:List α) (off:Nat) (xs:List α) (h:off+xs.length≤cells.length) (k:Nat):(kig cells off xs)[k]?=if off≤k∧k<off+xs.length then xs[k - off]? else cells[k]?:=by
  unfold kig
  by_cases h1:k<off
  · rw [List.getElem?_append_left (by rw [qai];omega),List.getElem?_take,if_pos h1,if_neg (by omega)]
  · rw [List.getElem?_append_right (by rw [qai];omega),qai,Nat.min_eq_left (by omega)]
    by_cases h2:k<off+xs.length
    · rw [List.getElem?_append_left (by omega),if_pos (by omega)]
    · rw [List.getElem?_append_right (by omega),List.getElem?_drop,if_neg (by omega)]
      congr 1;omega
theorem koo {α:Type} (cells:List α) (off:Nat) (xs:List α) (h:off+xs.length≤cells.length):(kig cells off xs).length=cells.length:=by
  unfold kig
  simp only [ql,qai,qaq];omega
theorem k0z (place:Nat→Option (Nat×Nat)):∀ (parts:List (Nat×Value)) (as_:List (Nat×AV)) (cells:Array Value) (xs rs:List AV),PW ψ K S w cells xs→(∀ x∈xs,x.single=true)→parts.length=as_.length →
    (∀ (i:Nat) (p:Nat×Value) (q:Nat×AV),parts[i]?=some p→as_[i]?=some q→p.1=q.1∧RV ψ K S w p.2 q.2)→kwp place xs as_=some rs →
    ∃ r,Instr.fill place cells parts=some r∧PW ψ K S w r rs∧∀ x∈rs,x.single=true
  | [],[],cells,xs,rs,hp,h1,_,_,hf=>by
    simp only [kwp,qh] at hf
    subst hf
    exact ⟨cells,rfl,hp,h1⟩
  | (i,v)::parts,(j,x)::as_,cells,xs,rs,hp,h1,hl,hr,hf=>by
    obtain ⟨hij,hx⟩:=hr 0 _ _ rfl rfl
    simp only at hij
    subst hij
    simp only [kwp] at hf
    cases hpl:place i with
    | none=>rw [hpl] at hf;cases hf
    | some os=>
      obtain ⟨off,size⟩:=os
      rw [hpl] at hf
      simp only at hf
      cases hc:(Nat.beq x.cells.length size && (Nat.ble (off+size) xs.length && x.cells.all AV.single)) with
      | false=>rw [hc] at hf;cases hf
      | true=>
        rw [hc] at hf
        simp only [qd] at hf
        simp only [qu] at hc
        obtain ⟨hc1,hc2,hc3⟩:=hc
        have hc1:=qr hc1
        have hc2:=qac hc2
        have hs:∀ y∈x.cells,y.single=true:=qm.1 hc3
        obtain ⟨e1,e2,e3⟩:=RV.cells hx hs
        simp only at e1 e2 e3
        obtain ⟨g1,g2⟩:=Great.foldl_set off v.cells.toList 0 cells
        have hle:off+x.cells.length≤xs.length:=by omega
        have hpw:PW ψ K S w ((v.cells.toList.zipIdx 0).foldl (fun cs (x:Value×Nat)=>cs.setIfInBounds (off+x.2) x.1) cells) (kig xs off x.cells):=by
          refine ⟨by rw [g1,koo _ _ _ hle];exact hp.1,fun k u y hu hy=>?_⟩
          rw [g2 k] at hu
          rw [kse _ _ _ hle] at hy
          simp only [Nat.add_zero,qav,e1] at hu
          by_cases hk:off≤k∧k<off+x.cells.length
          · rw [if_pos ⟨hk.1,hk.2,by rw [hp.1];omega⟩] at hu
            rw [if_pos hk] at hy
            exact e2 _ u y (by simpa using hu) hy
          · rw [if_neg (fun h=>hk ⟨h.1,h.2.1⟩)] at hu
            rw [if_neg hk] at hy
            exact hp.2 k u y hu hy
        have h1':∀ y∈kig xs off x.cells,y.single=true:=by
          intro y hy
          unfold kig at hy
          simp only [qam] at hy
          rcases hy with hy | hy | hy
          · exact h1 y (List.mem_of_mem_take hy)
          · exact hs y hy
          · exact h1 y (List.mem_of_mem_drop hy)
        obtain ⟨r,hr1,hr2,hr3⟩:=k0z place parts as_ _ _ rs hpw h1' (by simpa using hl) (fun n p q hp hq=>hr (n+1) p q (by simpa using hp) (by simpa using hq)) hf
        refine ⟨r,?_,hr2,hr3⟩
        unfold Instr.fill
        rw [hpl]
        simp only
        rw [if_neg (by simp [e1,hc1,hp.1];omega)]
        rw [← hr1]
        congr 1
        rw [← Array.foldl_toList,Array.toList_zipIdx]
theorem k43 {α β:Type} {f:α→Sem β} {g:α→β} (w:World):∀ (l:List α),(∀ x∈l,(f x).run P w = .ok (g x) w)→(l.mapM f).run P w = .ok (l.map g) w
  | [],_=>by simp
  | x::l,h=>by
    rw [List.mapM_cons]
    have h1:=h x (qo ..)
    have h2:=k43 w l fun y hy=>h y (qk _ hy)
    simp [h1,h2]
theorem k0n {z:Value} {xs:List AV} (hz:z.cells.toList=d.zero) (h:zeroA d=some xs):PW ψ K S w z.cells xs∧∀ x∈xs,x.single=true:=by
  unfold zeroA at h
  cases hb:d.zero.all (·.oneCell') with
  | false=>rw [hb] at h;cases h
  | true=>
    rw [hb] at h
    simp only [qd,qh] at h
    subst h
    have hall:=qm.1 hb
    refine ⟨⟨by rw [qan,← hz];simp,fun i v x hv hx=>?_⟩,fun x hx=>?_⟩
    · simp only [List.getElem?_map,qj] at hx
      obtain ⟨u,hu,rfl⟩:=hx
      rw [← hz,Array.getElem?_toList,hv] at hu
      injection hu with hu
      subst hu
      exact .fz (.atom (hall v (by rw [← hz];exact Array.mem_toList_iff.2 (Array.mem_of_getElem? hv))))
    · simp only [qao] at hx
      obtain ⟨v,hv,rfl⟩:=hx
      exact hall v hv
def ksq (T:List (TypeId×TD)):List (TypeId×Nat)→Option (List (Nat×Nat))
  | []=>some []
  | (ft,off)::l=>match ka3 T ft,ksq T l with
    | some d,some r=>some ((off,d.size)::r)
    | _,_=>none
theorem kzg (hT:TOk P T):∀ {fs:List (TypeId×Nat)} {ps:List (Nat×Nat)},ksq T fs=some ps→ps=fs.map (fun f=>(f.2,P.cellsOf f.1))∧∀ f∈fs,∀ w,(sizeOf f.1).run P w = .ok (P.cellsOf f.1) w
  | [],ps,h=>by simp [ksq] at h;subst h;exact ⟨rfl,fun f hf=>by cases hf⟩
  | (ft,off)::l,ps,h=>by
    simp only [ksq] at h
    split at h
    · rename_i d r hd hr
      injection h with h
      subst h
      obtain ⟨h1,h2⟩:=kzg hT hr
      have hs:P.cellsOf ft=d.size:=by unfold Program.cellsOf;rw [(hT.get hd).info];rfl
      refine ⟨by simp [h1,hs],fun f hf=>?_⟩
      rcases q8.1 hf with rfl | hf
      · intro w;rw [(hT.get hd).size];simp [hs]
      · exact h2 f hf
    · cases h
def ke9 (st:St) (ps:Array (Nat×Operand)):List (Nat×AV):=ps.toList.map fun p=>(p.1,st.eval p.2)
theorem kn2 {ids:List Nat} (h:∀ t,RV ψ (·∈ids) S w (a.tmps.getD t undef) (st.get t)) (ps:Array (Nat×Operand)):
    (ps.map fun (i,x)=>(i,a.eval x)).toList.length=(ke9 st ps).length∧∀ (i:Nat) (p:Nat×Value) (q:Nat×AV),(ps.map fun (i,x)=>(i,a.eval x)).toList[i]?=some p→(ke9 st ps)[i]?=some q→p.1=q.1∧RV ψ (·∈ids) S w p.2 q.2:=by
  refine ⟨by simp [ke9],fun i p q hp hq=>?_⟩
  unfold ke9 at hq
  simp only [Array.toList_map,List.getElem?_map,qj] at hp hq
  obtain ⟨x,hx,rfl⟩:=hp
  obtain ⟨y,hy,rfl⟩:=hq
  rw [hx] at hy
  injection hy with hy
  subst hy
  exact ⟨rfl,Sim.eval_tmps h x.2⟩
def k5e (T:List (TypeId×TD)) (st:St) (t:TypeId) (parts:Array (Nat×Operand)):Option AV:=match ka3 T t with
  | some d=>match d.kind,zeroA d with
    | .st fs,some zs=>match ksq T fs with
      | some ps=>(kwp (fun i:Nat=>ps[i]?) zs (ke9 st parts)).map aggA
      | none=>none
    | .arr _ e,some zs=>match ka3 T e with
      | some de=>(kwp (fun i:Nat=>some (i*de.size,de.size)) zs (ke9 st parts)).map aggA
      | none=>none
    | _,_=>none
  | none=>none
theorem kaiz {parts:Array (Nat×Operand)} {c:AV} (hT:TOk P T) (ho:o.op = .build t parts) (hc:k5e T st t parts=some c):NStep P o st c:=by
  intro ψ S a w ht hO
  unfold k5e at hc
  split at hc
  · rename_i d hd
    have hd:=hT.get hd
    split at hc
    · rename_i fs zs hk hz
      split at hc
      · rename_i ps hps
        simp only [qj] at hc
        obtain ⟨rs,hrs,rfl⟩:=hc
        obtain ⟨gs,hu,hgs⟩:=hd.strct hk
        obtain ⟨hp1,hp2⟩:=kzg hT hps
        obtain ⟨z,hz1,hz2⟩:=hd.zero (w:=w)
        obtain ⟨e1,e2⟩:=kn2 ht parts
        obtain ⟨z1,z2⟩:=k0n (ψ:=ψ) (K:=(·∈st.ids)) (S:=S) (w:=w) hz2 hz
        obtain ⟨r,hr1,hr2,hr3⟩:=k0z (fun i:Nat=>ps[i]?) _ _ _ _ rs z1 z2 e1 e2 hrs
        refine kam (w':=w) (v := .agg r) ?_ ⟨kaj _,(RV.aggA hr2.1 hr3 hr2.2).here⟩
        have hm:(Array.mapM (fun f:Field=>Prod.mk f.offset <$> sizeOf f.type) gs).run P w = .ok ps.toArray w:=by
          rw [Array.mapM_eq_mapM_toList]
          have:=k43 (P:=P) (f:=fun f:Field=>Prod.mk f.offset <$> sizeOf f.type) (g:=fun f=>(f.offset,P.cellsOf f.type)) w gs.toList fun f hf=>by
            have:=hp2 (f.type,f.offset) (by rw [← hgs];exact qao.2 ⟨f,hf,rfl⟩) w
            simp [this]
          simp only [Sem.run_map,this]
          rw [hp1,← hgs]
          simp
        have hpl:(fun i:Nat=>ps.toArray[i]?)=fun i:Nat=>ps[i]?:=by funext i;simp
        have hmap:(parts.map fun (i,x)=>(i,a.eval x)).toList=List.map (fun x=>(x.fst,a.eval x.snd)) parts.toList:=by simp
        rw [hmap] at hr1
        simp [execOp,ho,Instr.build,hz1,hu,hm,hpl,hr1]
      · cases hc
    · rename_i n e zs hk hz
      split at hc
      · rename_i de hde
        have hde:=hT.get hde
        simp only [qj] at hc
        obtain ⟨rs,hrs,rfl⟩:=hc
        have hu:=run_underlying (hd.arr hk) w
        obtain ⟨z,hz1,hz2⟩:=hd.zero (w:=w)
        obtain ⟨e1,e2⟩:=kn2 ht parts
        obtain ⟨z1,z2⟩:=k0n (ψ:=ψ) (K:=(·∈st.ids)) (S:=S) (w:=w) hz2 hz
        obtain ⟨r,hr1,hr2,hr3⟩:=k0z (fun i:Nat=>some (i*de.size,de.size)) _ _ _ _ rs z1 z2 e1 e2 hrs
        refine kam (w':=w) (v := .agg r) ?_ ⟨kaj _,(RV.aggA hr2.1 hr3 hr2.2).here⟩
        have hmap:(parts.map fun (i,x)=>(i,a.eval x)).toList=List.map (fun x=>(x.fst,a.eval x.snd)) parts.toList:=by simp
        rw [hmap] at hr1
        simp [execOp,ho,Instr.build,hz1,hu,hde.size,hr1]
      · cases hc
    · cases hc
  · cases hc
def arrX (T:List (TypeId×TD)) (st:St) (t:TypeId) (x y:Operand):Option AV:=match ka3 T t with
  | some d=>match d.kind with
    | .arr n e=>match ka3 T e,st.eval y with
      | some de, .fz (.atom (.int _ i))=>bif decide (0≤i) && decide (i<n) then kng st (i.toNat*de.size) (st.eval x) else none
      | _,_=>none
    | _=>none
  | none=>none
theorem kagj {x y:Operand} {c:AV} (hT:TOk P T) (ho:o.op = .indexAddr t x y) (hc:arrX T st t x y=some c):NStep P o st c:=by
  intro ψ S a w ht hO
  unfold arrX at hc
  split at hc
  · rename_i d hd
    split at hc
    · rename_i n e hk
      split at hc
      · rename_i de k i hde hy
        cases hb:decide (0≤i) && decide (i<(n:Int)) with
        | false=>rw [hb] at hc;cases hc
        | true=>
          rw [hb] at hc
          simp only [qd] at hc
          simp only [qu,decide_eq_true_eq] at hb
          have hd:=hT.get hd
          have hde:=hT.get hde
          obtain ⟨b,off',hv,hr⟩:=kwc (Sim.eval_tmps ht x) hO hc
          have hy2:=Sim.eval_tmps ht y
          rw [hy] at hy2
          have hya:=hy2.atom
          refine kam (w':=w) ?_ ⟨kaj _,hr.here⟩
          simp [execOp,ho,hv,hya,Instr.indexAt,asIntOf,run_underlying (hd.arr hk),Instr.sureAddr,hb.1,hb.2,hde.size,kks]
      · cases hc
    · cases hc
  · cases hc
end
end Go.Proofs.YtaimpcnpifoidaaGreatDoor
set_option linter.unusedVariables false
set_option linter.unusedSimpArgs false
namespace Go.Proofs.YtaimpcnpifoidaaGreatDoor
open Go Go.RowKit
def kpi (size:Nat):Nat→List (Nat×AV)→Option (List FV)
  | _,[]=>some []
  | i,(j, .fz x)::l=>bif Nat.beq j i && (Nat.beq x.cells.length size && x.cells.all FV.single) then (kpi size (i+1) l).map (x::·) else none
  | _,_::_=>none
def ksm:AV→Option (List FV)
  | .fz (.lst _ _ xs)=>some xs
  | .lim _ _ xs=>some xs
  | _=>none
def lenOf:AV→Option Nat
  | .fz (.lst _ n _)=>some n
  | .lim _ n _=>some n
  | .fz (.atom (.slice none 0 0))=>some 0
  | _=>none
section
variable {P:Program} {w w':World} {S S':Nat→Prop} {ψ:Env} {K:Nat→Prop} {T:List (TypeId×TD)} {o:Oper} {a:Act} {st:St} {t:TypeId} {d:TD}
theorem RF.lst_inv {v:Value} {size n:Nat} {xs:List FV} (h:RF S w v (.lst size n xs)):∃ (A:Option Addr) (cap:Nat) (css:Nat→List Value),v = .slice A n cap∧n=xs.length∧n≤cap∧cap≤9223372036854775807∧0<size ∧
    (∀ (i:Nat) (x:FV),xs[i]?=some x→∃ b o,A=some ⟨b,o,none⟩∧S b∧At w b (o+i*size) (css i)) ∧
    (∀ (i:Nat) (x:FV),xs[i]?=some x→(css i).length=size∧x.cells.length=size∧∀ y∈x.cells,y.single=true) ∧
    (∀ (i:Nat) (x:FV) (j:Nat) (v:Value) (y:FV),xs[i]?=some x→(css i)[j]?=some v→x.cells[j]?=some y→RF S w v y):=by
  cases h with
  | lst css hn hc hm hs ha hl hr=>exact ⟨_,_,css,rfl,hn,hc,hm,hs,ha,hl,hr⟩
theorem kabe {v:Value} {x:AV} {xs:List FV} (h:RV ψ K S w v x) (hx:ksm x=some xs):∃ A cap size n,n=xs.length∧v = .slice A n cap∧RF S w v (.lst size n xs):=by
  cases x with
  | fz x=>
    cases x with
    | lst size n ys=>
      simp only [ksm,qh] at hx
      subst hx
      have h:=h.inv
      have h':=h
      cases h with
      | lst css hn=>exact ⟨_,_,_,n,hn,rfl,h'⟩
    | _=>cases hx
  | lim size n ys=>
    simp only [ksm,qh] at hx
    subst hx
    cases h with
    | lim h=>
      have h':=h
      cases h with
      | lst css hn=>exact ⟨_,_,_,n,hn,rfl,h'⟩
  | _=>cases hx
theorem kaea {v:Value} {x:AV} {n:Nat} (h:RV ψ K S w v x) (hx:lenOf x=some n):∃ A cap,v = .slice A n cap:=by
  unfold lenOf at hx
  split at hx
  · injection hx with hx
    subst hx
    have h:=h.inv
    cases h with
    | lst css hn=>exact ⟨_,_,rfl⟩
  · injection hx with hx
    subst hx
    cases h with
    | lim h=>exact ⟨_,_,rfl⟩
  · injection hx with hx
    subst hx
    rw [h.atom];exact ⟨_,_,rfl⟩
  · cases hx
theorem k9z {x:Operand} {n:Nat} {e:TypeId} (ho:o.op = .call { callee := .builtin .len,args:=#[x],argTypes:=#[t] }) (hd:TdOk P t d) (hk:d.kind = .slice e) (hx:lenOf (st.eval x)=some n):NStep P o st (.fz (.atom (.int .i64 n))):=by
  intro ψ S a w ht hO
  obtain ⟨A,cap,hv⟩:=kaea (Sim.eval_tmps ht x) hx
  refine kam (w':=w) (v := .int .i64 n) ?_ ⟨kaj _, .fz (.atom rfl)⟩
  simp [execOp,ho,resolve,invoke,builtin,Builtin.len_,run_underlying (hd.slice hk),hv,goInt]
theorem kabo {x:Operand} {s:BA} (ho:o.op = .call { callee := .builtin .len,args:=#[x],argTypes:=#[t] }) (hd:TdOk P t d) (hk:d.kind = .str) (hx:st.eval x = .fz (.atom (.string s))):NStep P o st (.fz (.atom (.int .i64 s.size))):=by
  intro ψ S a w ht hO
  have h1:=Sim.eval_tmps ht x
  rw [hx] at h1
  refine kam (w':=w) (v := .int .i64 s.size) ?_ ⟨kaj _, .fz (.atom rfl)⟩
  simp [execOp,ho,resolve,invoke,builtin,Builtin.len_,run_underlying (hd.str hk),h1.atom,goInt]
theorem kahx {x y:Operand} {xs:List FV} {e:TypeId} {de:TD} {k:IntKind} {i:Int} {z:FV} {cs:List FV} (ho:o.op = .indexAddr t x y) (hd:TdOk P t d) (hk:d.kind = .slice e) (hde:TdOk P e de) (hx:ksm (st.eval x)=some xs)
    (hsz:∀ z∈xs,z.cells.length=de.size) (hy:st.eval y = .fz (.atom (.int k i))) (h0:0≤i) (hi:xs[i.toNat]?=some z) (hc:z.cells=cs):NStep P o st (.fz (.fp cs)):=by
  subst hc
  intro ψ S a w ht hO
  obtain ⟨A,cap,size,n,hnx,hv,hR⟩:=kabe (Sim.eval_tmps ht x) hx
  have h1:=Sim.eval_tmps ht y
  rw [hy] at h1
  have hlt:i.toNat<xs.length:=(List.getElem?_eq_some_iff.1 hi).1
  obtain ⟨A',cap',css,hv',hnn,hc,hm,hs,ha,hl,hr⟩:=hR.lst_inv
  obtain ⟨b,off,rfl,hS,hat⟩:=ha _ _ hi
  obtain ⟨l1,l2,l3⟩:=hl _ _ hi
  have hse:size=de.size:=by rw [← hsz z (qt hi),l2]
  subst hse
  refine kam (w':=w) (v := .pointer (some ⟨b,off+i.toNat*de.size,none⟩)) ?_ ⟨kaj _,(RV.fz (.fp (css i.toNat) hS hat (by rw [l1,l2]) (by omega) l3 fun j v y hv hy=>hr _ _ j v y hi hv hy)).here⟩
  have hlt':i<(n:Int):=by omega
  simp [execOp,ho,Instr.indexAt,h1.atom,asIntOf,run_underlying (hd.slice hk),hv',h0,hlt',hde.size,kks]
theorem kak1 {x y:Operand} {s:BA} {k:IntKind} {i:Int} {c:UInt8} (ho:o.op = .index t x y) (hd:TdOk P t d) (hk:d.kind = .str) (hx:st.eval x = .fz (.atom (.string s))) (hy:st.eval y = .fz (.atom (.int k i))) (h0:0≤i) (hi:s[i.toNat]?=some c):
    NStep P o st (.fz (.atom (.int .u8 c.toNat))):=by
  intro ψ S a w ht hO
  have h1:=Sim.eval_tmps ht x
  rw [hx] at h1
  have h2:=Sim.eval_tmps ht y
  rw [hy] at h2
  refine kam (w':=w) (v := .int .u8 c.toNat) ?_ ⟨kaj _, .fz (.atom rfl)⟩
  simp [execOp,ho,Instr.index,h1.atom,h2.atom,asIntOf,run_underlying (hd.str hk),h0,hi]
theorem kafm {x y:Operand} {yt:TypeId} {s u:BA} (ho:o.op = .binOp .add t x y yt) (hx:st.eval x = .fz (.atom (.string s))) (hy:st.eval y = .fz (.atom (.string u))) (hl:s.size+u.size≤9223372036854775807):
    NStep P o st (.fz (.atom (.string (s++u)))):=by
  intro ψ S a w ht hO
  have h1:=Sim.eval_tmps ht x
  rw [hx] at h1
  have h2:=Sim.eval_tmps ht y
  rw [hy] at h2
  refine kam (w':=w) (v := .string (s++u)) ?_ ⟨kaj _, .fz (.atom rfl)⟩
  have hm:IntKind.i64.max=9223372036854775807:=by decide
  have:¬ (((s.size+u.size:Nat):Int) > IntKind.i64.max):=by rw [hm];omega
  have hb:(binOp .add t (.string s) (.string u)).run P w = .ok (.string (s++u)) w:=by
    show (Op.stringOp .add s u).run P w=_
    unfold Op.stringOp
    simp only [if_neg this]
    rfl
  simp [execOp,ho,h1.atom,h2.atom,hb,ku2 (P:=P) (w:=w) (op := .add) (t:=t) (x:=x) (y:=y) (u := .string s) (v := .string u) rfl]
theorem kakr {sr:TypeId} {x:Operand} {k k':IntKind} {n:Int} {ds:TD} (ho:o.op = .convert sr t x) (hs:∃ e,P.underlying sr=some e) (hd:P.underlying t=some (.int k)) (hx:st.eval x = .fz (.atom (.int k' n))):NStep P o st (.fz (.atom (.int k (k.wrap n)))):=by
  intro ψ S a w ht hO
  obtain ⟨e,he⟩:=hs
  have h1:=Sim.eval_tmps ht x
  rw [hx] at h1
  refine kam (w':=w) (v := .int k (k.wrap n)) ?_ ⟨kaj _, .fz (.atom rfl)⟩
  cases e <;> simp [execOp,ho,h1.atom,convert,run_underlying he,run_underlying hd,Conv.intToInt]
theorem kak3 {f:FuncId} {cap:Array Operand} (ho:o.op = .makeFunc (.func f) #[] cap):NStep P o st (.fn f (cap.toList.map st.eval)):=by
  intro ψ S a w ht hO
  refine kam (w':=w) (v := .func (.func f) #[] (cap.map a.eval)) ?_ ⟨kaj _,(RV.fn (by simp) fun i v x hv hx=>?_).here⟩
  · simp [execOp,ho,Instr.makeFunc]
  · simp only [Array.getElem?_map,qj,List.getElem?_map,Array.getElem?_toList] at hv hx
    obtain ⟨y,hy,rfl⟩:=hv
    obtain ⟨z,hz,rfl⟩:=hx
    rw [hy] at hz
    injection hz with hz
    subst hz
    exact Sim.eval_tmps ht y
theorem n_mth {f:FuncId} {fst:Array Operand} (ho:o.op = .makeFunc (.func f) fst #[]):NStep P o st (.mth f (fst.toList.map st.eval)):=by
  intro ψ S a w ht hO
  refine kam (w':=w) (v := .func (.func f) (fst.map a.eval) #[]) ?_ ⟨kaj _,(RV.mth (by simp) fun i v x hv hx=>?_).here⟩
  · simp [execOp,ho,Instr.makeFunc]
  · simp only [Array.getElem?_map,qj,List.getElem?_map,Array.getElem?_toList] at hv hx
    obtain ⟨y,hy,rfl⟩:=hv
    obtain ⟨z,hz,rfl⟩:=hx
    rw [hy] at hz
    injection hz with hz
    subst hz
    exact Sim.eval_tmps ht y
theorem kvz {size:Nat}:∀ {i:Nat} {l:List (Nat×AV)} {xs:List FV},kpi size i l=some xs→l=(xs.zipIdx i).map (fun p=>(p.2,AV.fz p.1))∧∀ x∈xs,x.cells.length=size∧∀ y∈x.cells,y.single=true
  | i,[],xs,h=>by simp only [kpi,qh] at h;subst h;exact ⟨rfl,fun x hx=>by cases hx⟩
  | i,(j,x)::l,xs,h=>by
    cases x with
    | fz x=>
      simp only [kpi] at h
      cases hb:(Nat.beq j i && (Nat.beq x.cells.length size && x.cells.all FV.single)) with
      | false=>rw [hb] at h;cases h
      | true=>
        rw [hb] at h
        simp only [qd,qj] at h
        obtain ⟨ys,hys,rfl⟩:=h
        simp only [qu] at hb
        obtain ⟨hb1,hb2,hb3⟩:=hb
        obtain rfl:=qr hb1
        obtain ⟨h1,h2⟩:=kvz hys
        refine ⟨by rw [h1];rfl,fun y hy=>?_⟩
        rcases q8.1 hy with rfl | hy
        · exact ⟨qr hb2,qm.1 hb3⟩
        · exact h2 y hy
    | _=>cases h
theorem n_lit {n:Nat} {parts:Array (Nat×Operand)} {e:TypeId} {de:TD} {xs:List FV} (ho:o.op = .buildSlice t n parts) (hd:TdOk P t d) (hk:d.kind = .slice e) (hde:TdOk P e de) (hsz:0<de.size) (hn:xs.length=n) (hb:n*de.size≤16777216)
    (hp:kpi de.size 0 (ke9 st parts)=some xs):NStep P o st (.lim de.size n xs):=by
  subst hn
  intro ψ S a w ht hO
  obtain ⟨e1,e2⟩:=kn2 ht parts
  obtain ⟨p1,p2⟩:=kvz hp
  -- the parts' values
  obtain ⟨vs,hvs⟩:∃ vs:List Value,vs=parts.toList.map (fun p=>a.eval p.2):=⟨_,rfl⟩
  have hlen:parts.toList.length=xs.length:=by
    have:(ke9 st parts).length=xs.length:=by rw [p1];simp
    simpa [ke9] using this
  have hvl:vs.length=xs.length:=by rw [hvs];simp at hlen ⊢; exact hlen
  have helt:∀ (i:Nat) (x:FV),xs[i]?=some x→∃ v p,vs[i]?=some v∧parts.toList[i]?=some p∧p.1=i∧RF S w v x:=fun i x hx=>by
    have hi:i<parts.toList.length:=by rw [hlen];exact (List.getElem?_eq_some_iff.1 hx).1
    have hq:(ke9 st parts)[i]?=some (i, .fz x):=by rw [p1];simp [hx]
    have hpi:parts.toList[i]?=some parts.toList[i]:=List.getElem?_eq_getElem hi
    have hp':(parts.map fun (i,x)=>(i,a.eval x)).toList[i]?=some (parts.toList[i].1,a.eval parts.toList[i].2):=by simp [hpi]
    obtain ⟨r1,r2⟩:=e2 i _ _ hp' hq
    exact ⟨a.eval parts.toList[i].2,parts.toList[i],by rw [hvs,List.getElem?_map,hpi];rfl,hpi,r1,r2.inv⟩
  have hpz:(parts.map fun (i,x)=>(i,a.eval x)).toList=(vs.zipIdx 0).map (fun x=>(x.2,x.1)):=by
    apply List.ext_getElem?
    intro i
    by_cases hi:i<xs.length
    · obtain ⟨v,p,h1,h2,h3,_⟩:=helt i xs[i] (List.getElem?_eq_getElem hi)
      have:v=a.eval p.2:=by rw [hvs,List.getElem?_map,h2] at h1;simpa using h1.symm
      simp only [Array.toList_map,List.getElem?_map,List.getElem?_zipIdx,h1,h2,qa6,Nat.zero_add]
      rw [this,h3]
    · rw [List.getElem?_eq_none (by simp at hlen ⊢; omega),List.getElem?_eq_none (by simp [hvl];omega)]
  have hcells:∀ v∈vs,v.cells.size=de.size:=fun v hv=>by
    obtain ⟨i,hi,rfl⟩:=qs.1 hv
    obtain ⟨v,p,h1,_,_,h4⟩:=helt i xs[i] (List.getElem?_eq_getElem (by omega))
    rw [List.getElem?_eq_getElem hi] at h1
    injection h1 with h1
    rw [h1,(h4.cells (p2 _ (qn _)).2).1,(p2 _ (qn _)).1]
  obtain ⟨z,hz1,hz2⟩:=hde.zero (P:=P) (w:=w)
  obtain ⟨cells,hcl⟩:∃ cells:Array Value,cells=(vs.flatMap fun v=>v.cells.toList).toArray:=⟨_,rfl⟩
  have hrow:(Instr.buildSlice t xs.length (parts.map fun (i,x)=>(i,a.eval x))).run P w = .ok (.slice (some ⟨w.heap.size,0,none⟩) xs.length xs.length) (w.alloc (.cells cells e)):=by
    have hb':¬ xs.length*de.size > 2 ^ 24:=by omega
    have hfill:∀ c0:Array Value,xs.length*de.size=c0.size→Instr.fill (fun i=>some (i*de.size,de.size)) c0 (parts.map fun (i,x)=>(i,a.eval x)).toList=some cells:=fun c0 hc0=>by
      rw [hpz,Great.fill_whole hsz vs c0 hcells (by rw [hvl];exact hc0),hcl]
    unfold Instr.buildSlice
    rw [Sem.run_bind,run_underlying (hd.slice hk),Result.andThen_ok]
    simp only [Sem.run_bind,hde.size,Result.andThen_ok,if_neg hb']
    by_cases h0:xs.length*de.size=0
    · simp only [if_pos h0,Sem.run_bind,Sem.run_pure,Result.andThen_ok]
      rw [hfill]
      · rfl
      · simp
    · simp only [if_neg h0,Sem.run_bind,hz1,Result.andThen_ok,Sem.run_pure]
      rw [hfill]
      · rfl
      · simp
  refine kam (w':=w.alloc (.cells cells e)) ?_ ⟨kde _ _, .lim (.lst (fun i=>(vs.getD i undef).cells.toList) rfl (qw _) ?_ hsz (fun i x hx=>⟨w.heap.size,0,rfl, .inr (qw _),fun j u hu=>?_⟩) (fun i x hx=>?_) fun i x j v y hx hv hy=>?_)⟩
  · have hrow':=hrow
    simp only [execOp,ho,Sem.run_bind]
    rw [show (parts.map fun (i,x)=>(i,a.eval x))=parts.map (fun x=>(x.1,a.eval x.2)) from rfl] at hrow'
    simp [hrow']
  · have:xs.length*1≤xs.length*de.size:=Nat.mul_le_mul_left _ hsz
    omega
  · have hi:=(List.getElem?_eq_some_iff.1 hx).1
    have hgd:vs.getD i undef=vs[i]:=by simp [List.getD,List.getElem?_eq_getElem (show i<vs.length by omega)]
    rw [hgd] at hu
    have hj:j<de.size:=by
      have:=(List.getElem?_eq_some_iff.1 hu).1
      rw [qav,hcells _ (qn _)] at this
      exact this
    have hfl:=Great.flat_get hsz vs hcells (i*de.size+j)
    rw [show (i*de.size+j) / de.size=i by rw [Nat.mul_comm,Nat.mul_add_div hsz,Nat.div_eq_of_lt hj];omega,show (i*de.size+j) % de.size=j by rw [Nat.mul_comm,Nat.mul_add_mod,Nat.mod_eq_of_lt hj]] at hfl
    rw [List.getElem?_eq_getElem (show i<vs.length by omega)] at hfl
    simp only [qa] at hfl
    have hh:(w.alloc (.cells cells e)).heap[w.heap.size]?=some (.cells cells e (0,0)):=heap_alloc_new w _
    simp only [World.cell?,hh,Nat.zero_add]
    simp only [Option.isSome_none,qax,if_false]
    rw [hcl]
    simp only [List.getElem?_toArray]
    rw [hfl]
    simpa using hu
  · have hi:=(List.getElem?_eq_some_iff.1 hx).1
    have hgd:vs.getD i undef=vs[i]:=by simp [List.getD,List.getElem?_eq_getElem (show i<vs.length by omega)]
    have:=p2 x (qt hx)
    rw [hgd]
    exact ⟨by rw [qav,hcells _ (qn _)],this.1,this.2⟩
  · obtain ⟨u,p,h1,_,_,h4⟩:=helt i x hx
    have hgd:vs.getD i undef=u:=by simp [List.getD,h1]
    simp only [hgd] at hv
    have:=(h4.cells (p2 x (qt hx)).2).2.1 j v y (by simpa using hv) hy
    exact (this.keep (Same.of_grow (kde _ _))).mono fun _ h => .inl h
end
end Go.Proofs.YtaimpcnpifoidaaGreatDoor
set_option linter.unusedVariables false
set_option linter.unusedSimpArgs false
namespace Go.Proofs.YtaimpcnpifoidaaGreatDoor
open Go Go.RowKit
def Env.set (ψ:Env) (id n:Nat) (v:Value):Env:=⟨fun i=>if i=id then n else ψ.len i,fun i=>if i=id then v else ψ.val i⟩
section
variable {P:Program} {F S0:Nat→Prop} {N0:Nat} {w w':World} {S S':Nat→Prop} {ψ:Env} {K:Nat→Prop} {T:List (TypeId×TD)} {o:Oper} {a:Act} {st:St} {t:TypeId} {d:TD} {heap:List (Nat×AObj)} {ids:List Nat} {id:Nat}
theorem ke1 (n:Nat) (v:Value):(ψ.set id n v).len id=n:=by simp [Env.set]
theorem kbn (n:Nat) (v:Value):(ψ.set id n v).val id=v:=by simp [Env.set]
theorem ki2 {i:Nat} (h:i≠id) (n:Nat) (v:Value):(ψ.set id n v).len i=ψ.len i∧(ψ.set id n v).val i=ψ.val i:=by simp [Env.set,h]
theorem keo (h:id∉ids) (n:Nat) (v:Value):Ext (·∈ids) ψ (ψ.set id n v):=fun i hi=>by
  have hne:i≠id:=fun e=>h (e ▸ hi)
  obtain ⟨h1,h2⟩:=ki2 (ψ:=ψ) hne n v
  exact ⟨by omega,fun _=>h2⟩
theorem k0s {n:Nat} {v:Value} (h:ψ.len id<n∨(ψ.len id=n∧v=ψ.val id)):Ext (·∈ids) ψ (ψ.set id n v):=fun i hi=>by
  by_cases hne:i=id
  · subst hne
    rw [ke1,kbn]
    rcases h with h | ⟨h1,h2⟩
    · exact ⟨by omega,fun e=>by omega⟩
    · exact ⟨by omega,fun _=>h2⟩
  · obtain ⟨h1,h2⟩:=ki2 (ψ:=ψ) hne n v
    exact ⟨by omega,fun _=>h2⟩
theorem Core.addB {n:Nat} {v:Value} {ob:AObj} (h:Core F S0 N0 heap ids ψ S w) (hg:Grow w w') (hid:id∉ids) (hb:∀ b,Blk v b→w.heap.size≤b)
    (hO:ObR (ψ.set id n v) (·∈id::ids) S w' id ob):Core F S0 N0 ((id,ob)::heap) (id::ids) (ψ.set id n v) S w':=by
  have hk:Same S w w':=Same.of_grow hg
  have hids:∀ i,i∈ids→i≠id:=fun i hi e=>hid (e ▸ hi)
  refine ⟨fun i o' ho=>?_,fun i i' o' o'' b ho ho' hne hb1 hb2=>?_,fun b hb=>Nat.lt_of_lt_of_le (h.lt b hb) hg.size,h.s0,qaw h.n0 hg.size,fun b hb=>Nat.lt_of_lt_of_le (h.fr b hb) hg.size⟩
  · rw [kai] at ho
    by_cases he:id=i
    · subst he
      rw [if_pos rfl] at ho
      injection ho with ho
      subst ho
      refine ⟨qo ..,hO,fun b hb'=>?_⟩
      rw [kbn] at hb'
      have:=hb b hb'
      exact ⟨fun hs=>by have:=h.lt b hs;omega,fun hf=>by have:=h.fr b hf;omega, .inr (by have:=h.n0;omega)⟩
    · rw [if_neg he] at ho
      obtain ⟨h1,h2,h3⟩:=h.obj i o' ho
      have hso:=ki2 (ψ:=ψ) (hids i h1) n v
      refine ⟨qk _ h1,h2.keep (keo hid n v) (fun _ h=>qk _ h) (fun _ h=>h) hk hso fun b hb'=>hg.block b (h2.lt hb'),fun b hb'=>h3 b (by rw [hso.2] at hb'; exact hb')⟩
  · rw [kai] at ho ho'
    by_cases he:id=i
    · subst he
      by_cases he':id=i'
      · exact hne he'
      · rw [if_neg he'] at ho'
        obtain ⟨h1,h2,h3⟩:=h.obj i' o'' ho'
        rw [kbn] at hb1
        rw [(ki2 (ψ:=ψ) (hids i' h1) n v).2] at hb2
        have:=hb b hb1
        have:=h2.lt hb2
        omega
    · rw [if_neg he] at ho
      obtain ⟨h1,h2,h3⟩:=h.obj i o' ho
      rw [(ki2 (ψ:=ψ) (hids i h1) n v).2] at hb1
      by_cases he':id=i'
      · subst he'
        rw [kbn] at hb2
        have:=hb b hb2
        have:=h2.lt hb1
        omega
      · rw [if_neg he'] at ho'
        obtain ⟨h1',h2',h3'⟩:=h.obj i' o'' ho'
        rw [(ki2 (ψ:=ψ) (hids i' h1') n v).2] at hb2
        exact h.inj i i' o' o'' b ho ho' hne hb1 hb2
theorem Core.add {n:Nat} {v:Value} {ob:AObj} (h:Core F S0 N0 heap ids ψ S w) (hg:Grow w w') (hid:id∉ids) (hb:∀ b,kb1 v=some b→w.heap.size≤b)
    (hO:ObR (ψ.set id n v) (·∈id::ids) S w' id ob) (hnt:kmx v=[]:=by rfl):Core F S0 N0 ((id,ob)::heap) (id::ids) (ψ.set id n v) S w':=
  h.addB hg hid (fun b hb'=>hb b (by
    rcases hb' with hb' | ⟨u,hu,_⟩
    · exact hb'
    · rw [hnt] at hu;cases hu)) hO
theorem Core.upd {n:Nat} {v:Value} {ob ob':AObj} (h:Core F S0 N0 heap ids ψ S w) (ho:kab heap id=some ob) (hsz:w.heap.size≤w'.heap.size) (hoth:∀ k,k<w.heap.size→¬ Blk (ψ.val id) k→w'.heap[k]?=w.heap[k]?)
    (hx:ψ.len id<n∨(ψ.len id=n∧v=ψ.val id)) (hb:∀ b,Blk v b→Blk (ψ.val id) b∨w.heap.size≤b) (hO:ObR (ψ.set id n v) (·∈ids) S w' id ob'):
    Core F S0 N0 ((id,ob')::heap) ids (ψ.set id n v) S w'∧Same S w w'∧∀ b,F b→w'.heap[b]?=w.heap[b]?:=by
  obtain ⟨hid,hob,hfr⟩:=h.obj id ob ho
  have hk:Same S w w':=fun b hb hl=>hoth b hl fun e=>(hfr b e).1 hb
  refine ⟨⟨fun i o' ho'=>?_,fun i i' o' o'' b ho1 ho2 hne hb1 hb2=>?_,fun b hb=>Nat.lt_of_lt_of_le (h.lt b hb) hsz,h.s0,qaw h.n0 hsz,fun b hb=>Nat.lt_of_lt_of_le (h.fr b hb) hsz⟩,hk,fun b hf=>hoth b (h.fr b hf) fun e=>(hfr b e).2.1 hf⟩
  · rw [kai] at ho'
    by_cases he:id=i
    · subst he
      rw [if_pos rfl] at ho'
      injection ho' with ho'
      subst ho'
      refine ⟨hid,hO,fun b hb'=>?_⟩
      rw [kbn] at hb'
      rcases hb b hb' with h1 | h1
      · exact hfr b h1
      · exact ⟨fun hs=>by have:=h.lt b hs;omega,fun hf=>by have:=h.fr b hf;omega, .inr (by have:=h.n0;omega)⟩
    · rw [if_neg he] at ho'
      obtain ⟨h1,h2,h3⟩:=h.obj i o' ho'
      have hso:=ki2 (ψ:=ψ) (Ne.symm he) n v
      refine ⟨h1,h2.keep (k0s hx) (fun _ h=>h) (fun _ h=>h) hk hso fun b hb'=>hoth b (h2.lt hb') fun e=>h.inj i id o' ob b ho' ho (Ne.symm he) hb' e,fun b hb'=>h3 b (by rw [hso.2] at hb'; exact hb')⟩
  · rw [kai] at ho1 ho2
    by_cases he:id=i
    · subst he
      by_cases he':id=i'
      · exact hne he'
      · rw [if_neg he'] at ho2
        obtain ⟨h1,h2,h3⟩:=h.obj i' o'' ho2
        rw [kbn] at hb1
        rw [(ki2 (ψ:=ψ) (Ne.symm he') n v).2] at hb2
        rcases hb b hb1 with h4 | h4
        · exact h.inj id i' ob o'' b ho ho2 hne h4 hb2
        · have:=h2.lt hb2;omega
    · rw [if_neg he] at ho1
      obtain ⟨h1,h2,h3⟩:=h.obj i o' ho1
      rw [(ki2 (ψ:=ψ) (Ne.symm he) n v).2] at hb1
      by_cases he':id=i'
      · subst he'
        rw [kbn] at hb2
        rcases hb b hb2 with h4 | h4
        · exact h.inj i id o' ob b ho1 ho hne hb1 h4
        · have:=h2.lt hb1;omega
      · rw [if_neg he'] at ho2
        obtain ⟨h1',h2',h3'⟩:=h.obj i' o'' ho2
        rw [(ki2 (ψ:=ψ) (Ne.symm he') n v).2] at hb2
        exact h.inj i i' o' o'' b ho1 ho2 hne hb1 hb2
theorem kov (ob:Obj) (hF:∀ b,F b→b<w.heap.size):Fr F w (w.alloc ob):=Fr.of_grow hF (kde w ob)
theorem e_box {e:TypeId} {x:Operand} {cells:List AV} (ho:o.op = .box e x) (hx:(st.eval x).cells=cells) (h1:cells.all AV.single=true) (hid:st.ids.contains id=false):
    kdf P o st (.ref id 0 0) ((id, .box e cells)::st.heap) (id::st.ids):=by
  subst hx
  have hs:∀ y∈(st.eval x).cells,y.single=true:=qm.1 h1
  have hid:id∉st.ids:=by simpa using hid
  intro F S0 N0 ψ S a w hs'
  obtain ⟨e1,e2,e3⟩:=RV.cells (hs'.eval x) hs
  have hcore:=hs'.core
  refine kam (w':=w.alloc (.cells (a.eval x).cells e)) (v := .pointer (some ⟨w.heap.size,0,none⟩)) ?_ ⟨ψ.set id 0 (.pointer (some ⟨w.heap.size,0,none⟩)),S,?_,?_,kov _ hcore.fr,keo hid _ _,fun _ h=>qk _ h,fun _ h=>h,Same.of_grow (kde _ _)⟩
  · simp [execOp,ho,Instr.box,newVar,newRow]
  · refine hcore.add (kde _ _) hid (fun b hb=>by simp [kb1] at hb;omega) ⟨ke1 _ _,w.heap.size,_,kbn _ _,heap_alloc_new w _,e1,hs,fun i v y hv hy=>?_⟩
    exact (e2 i v y hv hy).keep (keo hid _ _) (fun _ h=>qk _ h) (fun _ h=>h) (Same.of_grow (kde _ _))
  · exact .ref (qo ..) (qx _) rfl fun _=>⟨w.heap.size,by rw [kbn];rfl,rfl⟩
theorem k7f {e:TypeId} {cells:List AV} (ho:o.op = .alloc e) (hd:TdOk P e d) (hz:zeroA d=some cells) (hid:st.ids.contains id=false):
    kdf P o st (.ref id 0 0) ((id, .box e cells)::st.heap) (id::st.ids):=by
  have hid:id∉st.ids:=by simpa using hid
  intro F S0 N0 ψ S a w hs'
  obtain ⟨z,hz1,hz2⟩:=hd.zero (P:=P) (w:=w)
  obtain ⟨z1,z2⟩:=k0n (ψ:=ψ) (K:=(·∈st.ids)) (S:=S) (w:=w) hz2 hz
  have hcore:=hs'.core
  refine kam (w':=w.alloc (.cells z.cells e)) (v := .pointer (some ⟨w.heap.size,0,none⟩)) ?_ ⟨ψ.set id 0 (.pointer (some ⟨w.heap.size,0,none⟩)),S,?_,?_,kov _ hcore.fr,keo hid _ _,fun _ h=>qk _ h,fun _ h=>h,Same.of_grow (kde _ _)⟩
  · simp [execOp,ho,Instr.alloc,hz1,newVar,newRow]
  · refine hcore.add (kde _ _) hid (fun b hb=>by simp [kb1] at hb;omega) ⟨ke1 _ _,w.heap.size,_,kbn _ _,heap_alloc_new w _,z1.1,z2,fun i v y hv hy=>?_⟩
    exact (z1.2 i v y hv hy).keep (keo hid _ _) (fun _ h=>qk _ h) (fun _ h=>h) (Same.of_grow (kde _ _))
  · exact .ref (qo ..) (qx _) rfl fun _=>⟨w.heap.size,by rw [kbn];rfl,rfl⟩
theorem k8x (g:Nat) (cs:Array Value) (k:Nat) (h:k≠g):(w.setRow g cs).heap[k]?=w.heap[k]?:=by
  simp only [World.setRow,Array.getElem?_modify]
  rw [if_neg (fun e=>h e.symm)]
theorem k52 (g:Nat) {cs cs':Array Value} {e:TypeId} {fr:Nat×Nat} (h:w.heap[g]?=some (.cells cs e fr)):(w.setRow g cs').heap[g]?=some (.cells cs' e fr):=by
  simp [World.setRow,Array.getElem?_modify,h]
theorem k6k {e:TypeId} {x y:Operand} {off:Nat} {cells ys:List AV} (ho:o.op = .store t x y) (hd:TdOk P t d) (hx:st.eval x = .ref id 0 off) (hob:kab st.heap id=some (.box e cells)) (hy:(st.eval y).cells=ys) (hl:ys.length=d.size) (h1:ys.all AV.single=true)
    (hle:off+ys.length≤cells.length):kdf P o st .any ((id, .box e (kig cells off ys))::st.heap) st.ids:=by
  subst hy
  have hs:∀ z∈(st.eval y).cells,z.single=true:=qm.1 h1
  intro F S0 N0 ψ S a w hs'
  obtain ⟨e1,e2,e3⟩:=RV.cells (hs'.eval y) hs
  have hcore:=hs'.core
  obtain ⟨hid,⟨h0,b,cs,hval,hb,hcs,hsing,hr⟩,hfr⟩:=hcore.obj id _ hob
  have hv:=hs'.eval x
  rw [hx] at hv
  have hpt:a.eval x = .pointer (some ⟨b,off,none⟩):=by
    generalize a.eval x=u at hv
    cases hv with
    | ref hK hn h1 hv=>
      obtain ⟨b',hb',rfl⟩:=hv h0.symm
      rw [hval] at hb'
      simp only [kb1,qh] at hb'
      rw [hb']
  have hst:=run_storeCells_at (P:=P) b off e (a.eval y).cells.toList 0 cs w hb (by simp [e1,hcs];omega) e3
  simp only [Nat.add_zero,qav] at hst
  obtain ⟨new,hnew⟩:∃ new:Array Value,new=(cs.toList.take off++(a.eval y).cells.toList++cs.toList.drop (off+(a.eval y).cells.size)).toArray:=⟨_,rfl⟩
  rw [← hnew] at hst
  have hnl:new.toList=kig cs.toList off (a.eval y).cells.toList:=by rw [hnew];simp [kig,qaa]
  have hsz:(w.setRow b new).heap.size=w.heap.size:=by simp [World.setRow]
  have hoth:∀ k,k<w.heap.size→¬ Blk (ψ.val id) k→(w.setRow b new).heap[k]?=w.heap[k]?:=fun k _ hk=>k8x b new k fun e=>hk (.of (by rw [hval,e];rfl))
  have hset:ψ.set id 0 (ψ.val id)=ψ:=by
    unfold Env.set
    congr 1
    · funext i;split
      · rename_i h;rw [h,h0]
      · rfl
    · funext i;split
      · rename_i h;rw [h]
      · rfl
  have hk:Same S w (w.setRow b new):=fun k hk hl=>hoth k hl fun e=>(hfr k e).1 hk
  obtain ⟨c1,c2,c3⟩:=hcore.upd (n:=0) (v:=ψ.val id) (w':=w.setRow b new) (ob' := .box e (kig cells off (st.eval y).cells)) hob (by omega) hoth (.inr ⟨h0,rfl⟩) (fun b hb => .inl hb) (by
    rw [hset]
    have hle1:off+(a.eval y).cells.toList.length≤cs.toList.length:=by simp [e1,hcs];omega
    refine ⟨h0,b,new,hval,k52 b hb,?_,fun z hz=>?_,fun i v z hv hz=>?_⟩
    · rw [← qav,hnl,koo _ _ _ hle1,koo _ _ _ hle];simpa using hcs
    · unfold kig at hz
      simp only [qam] at hz
      rcases hz with hz | hz | hz
      · exact hsing z (List.mem_of_mem_take hz)
      · exact hs z hz
      · exact hsing z (List.mem_of_mem_drop hz)
    · rw [← Array.getElem?_toList,hnl,kse _ _ _ hle1] at hv
      rw [kse _ _ _ hle] at hz
      simp only [qav,e1] at hv
      split at hv
      · rename_i hi
        rw [if_pos hi] at hz
        exact (e2 _ v z (by simpa using hv) hz).keep Ext.refl (fun _ h=>h) (fun _ h=>h) hk
      · rename_i hi
        rw [if_neg hi] at hz
        exact (hr _ v z (by simpa using hv) hz).keep Ext.refl (fun _ h=>h) (fun _ h=>h) hk)
  rw [hset] at c1
  refine ktj (w':=w.setRow b new) ?_ ⟨ψ,S,c1, .any,⟨rfl,rfl,rfl,by omega,c3⟩,Ext.refl,fun _ h=>h,fun _ h=>h,c2⟩
  simp only [execOp,ho,Instr.storeAt,hpt,Instr.sureAddr,storeVar,hd.size,Sem.run_bind,Sem.run_pure,Result.andThen_ok]
  rw [if_neg (by rw [e1,hl];simp)]
  simp [hst]
end
end Go.Proofs.YtaimpcnpifoidaaGreatDoor
set_option linter.unusedVariables false
set_option linter.unusedSimpArgs false
namespace Go.Proofs.YtaimpcnpifoidaaGreatDoor
open Go Go.RowKit
section
variable {P:Program} {F S0:Nat→Prop} {N0:Nat} {w w':World} {S S':Nat→Prop} {ψ:Env} {K:Nat→Prop} {T:List (TypeId×TD)} {o:Oper} {a:Act} {st:St} {t:TypeId} {d:TD} {heap:List (Nat×AObj)} {ids:List Nat} {id:Nat}
def RowR (S:Nat→Prop) (w:World) (size:Nat) (xs:List FV) (cs:List Value):Prop:=
  ∀ (i:Nat) (x:FV) (j:Nat) (v:Value) (y:FV),xs[i]?=some x→cs[i*size+j]?=some v→x.cells[j]?=some y→RF S w v y
def ElR (size:Nat) (xs:List FV):Prop:=∀ x∈xs,x.cells.length=size∧∀ y∈x.cells,y.single=true
theorem RowR.append {size:Nat} {xs ys:List FV} {cs news:List Value} (hs:0<size) (h:RowR S w size xs cs) (k:RowR S w size ys news) (hl:cs.length=xs.length*size) (hx:ElR size xs):RowR S w size (xs++ys) (cs++news):=by
  intro i x j v y hi hv hy
  by_cases hlt:i<xs.length
  · rw [List.getElem?_append_left hlt] at hi
    have hj:j<size:=by
      have:=(List.getElem?_eq_some_iff.1 hy).1
      rw [(hx x (qt hi)).1] at this
      exact this
    have:(i+1)*size≤xs.length*size:=Nat.mul_le_mul_right _ hlt
    rw [Nat.add_mul] at this
    rw [List.getElem?_append_left (by omega)] at hv
    exact h i x j v y hi hv hy
  · rw [List.getElem?_append_right (by omega)] at hi
    have:xs.length*size≤i*size:=Nat.mul_le_mul_right _ (by omega)
    rw [List.getElem?_append_right (by omega),hl,show i*size+j - xs.length*size=(i - xs.length)*size+j by rw [Nat.sub_mul];omega] at hv
    exact k _ x j v y hi hv hy
theorem RowR.keep {size:Nat} {xs:List FV} {cs:List Value} (h:RowR S w size xs cs) (hk:Same S w w'):RowR S w' size xs cs:=fun i x j v y h1 h2 h3=>(h i x j v y h1 h2 h3).keep hk
theorem kain {e:TypeId} {de:TD} {t ty:TypeId} (ht:P.underlying t=some (.slice e)) (hde:TdOk P e de) (hz:0<de.size) (hzl:de.zero.length=de.size) {v s:Value} {n m:Nat} {cs:List Value} {zs:List FV} (hown:w.ownsRow 0 e de.size v n cs) (hs:RF S w s (.lst de.size m zs))
    (h63:n+zs.length≤9223372036854775807) (hbytes:(n+zs.length)*de.bytes≤140737488355328):
    ∃ v' w' news,(Builtin.append_ #[t,t] ty #[v,s]).run P w = .ok v' w'∧w'.ownsRow 0 e de.size v' (n+zs.length) (cs++news)∧w.grownBy w' v.ownBlock∧(v'.ownBlock=v.ownBlock∨v'.ownBlock=some w.heap.size)∧news.length=zs.length*de.size ∧
      RowR S w de.size zs news∧ElR de.size zs∧(zs=[]→v'=v):=by
  obtain ⟨A,cap,css,rfl,rfl,hc,hm,_,ha,hl,hr⟩:=hs.lst_inv
  have hel:ElR de.size zs:=fun x hx=>by
    obtain ⟨i,hi,rfl⟩:=qs.1 hx
    exact (hl i _ (List.getElem?_eq_getElem hi)).2
  obtain ⟨⟨i,z,hi,hsz,hby,hzz,hzc⟩,_⟩:=hde
  have hzs:z.cells.size=de.size:=by rw [← qav,hzc,hzl]
  by_cases hz0:zs=[]
  · subst hz0
    cases A with
    | none=>exact ⟨v,w,[],kxe 0 t ty e i de.size ht hi v n cs hown cap,by simpa using hown,World.grownBy.refl w _, .inl rfl,by simp,(fun i x j v y h=>by simp at h),hel,fun _=>rfl⟩
    | some ad=>
      obtain ⟨v',w',hrun,h2,h3,h4,h5⟩:=run_append_own_at (P:=P) w 0 t ty e i z de.size de.bytes ht hi hzz hsz hby hzs hz v n cs hown ad 0 cap [] (by simp) (fun j u h=>by simp at h) (by simp) (by unfold maxLen;simp at h63;omega) (by simpa using hbytes) (by omega)
      have hvv:v'=v:=by
        have hn:(Builtin.append_ #[t,t] ty #[v, .slice (some ad) 0 cap]).run P w = .ok v w:=by
          rcases hown.2 with ⟨rfl,rfl⟩ | ⟨g,cap',cur,rfl,_,_,hnc,_⟩
          · simp [Builtin.append_,run_underlying ht,sizeOf,typeInfo,hi,Builtin.lenOf,Builtin.firstCells,loadCells,loadCellsFrom]
          · simp [Builtin.append_,run_underlying ht,sizeOf,typeInfo,hi,Builtin.lenOf,Builtin.firstCells,hnc,storeCells,loadCells,loadCellsFrom]
        rw [hn] at hrun
        injection hrun with h1 h2
        exact h1.symm
      exact ⟨v',w',[],hrun,by simpa using h2,h3,h5,by simp,(fun i x j v y h=>by simp at h),hel,fun _=>hvv⟩
  · obtain ⟨y0,ys,rfl⟩:∃ y0 ys,zs=y0::ys:=by
      cases zs with
      | nil=>exact absurd rfl hz0
      | cons y ys=>exact ⟨y,ys,rfl⟩
    obtain ⟨b,off,rfl,_,_⟩:=ha 0 y0 rfl
    obtain ⟨news,hn,hat,hq⟩:=k6h (b:=b) (w:=w) (size:=de.size) (Q:=fun c y=>(∀ j v z,c[j]?=some v→y.cells[j]?=some z→RF S w v z)∧(∀ u∈c,u.oneCell'=true)) (y0::ys) off fun i y hy=>by
      obtain ⟨b',o',hA,_,hat⟩:=ha i y hy
      injection hA with hA
      injection hA with e1 e2
      subst e1 e2
      obtain ⟨l1,l2,l3⟩:=hl i y hy
      refine ⟨css i,hat,l1,fun j v z hv hz=>hr i y j v z hy hv hz,fun u hu=>?_⟩
      obtain ⟨j,hj,rfl⟩:=qs.1 hu
      have hj':j<y.cells.length:=by omega
      exact (hr i y j _ _ hy (List.getElem?_eq_getElem hj) (List.getElem?_eq_getElem hj')).one (l3 _ (qn hj'))
    have h1:∀ u∈news,u.oneCell'=true:=by
      intro u hu
      obtain ⟨j,hj,rfl⟩:=qs.1 hu
      have hjy:j / de.size<(y0::ys).length:=by rw [Nat.div_lt_iff_lt_mul hz];omega
      refine (hq (j / de.size) _ (List.getElem?_eq_getElem hjy)).2 _ ?_
      rw [qa4]
      refine ⟨j % de.size,?_⟩
      rw [List.getElem?_take,if_pos (Nat.mod_lt _ hz),List.getElem?_drop,show j / de.size*de.size+j % de.size=j by rw [Nat.mul_comm];exact Nat.div_add_mod j de.size]
      exact List.getElem?_eq_getElem hj
    obtain ⟨v',w',hrun,h2,h3,h4,h5⟩:=run_append_own_at (P:=P) w 0 t ty e i z de.size de.bytes ht hi hzz hsz hby hzs hz v n cs hown ⟨b,off,none⟩ (y0::ys).length cap news hn
      (fun j u h=>by rw [kks];exact hat j u h) h1 (by unfold maxLen;omega) hbytes (by omega)
    refine ⟨v',w',news,hrun,h2,h3,h5,hn,fun i x j v y hx hv hy=>?_,hel,fun h=>by cases h⟩
    have hj:j<de.size:=by
      have:=(List.getElem?_eq_some_iff.1 hy).1
      rw [(hel x (qt hx)).1] at this
      exact this
    refine (hq i x hx).1 j v y ?_ hy
    rw [List.getElem?_take,if_pos hj,List.getElem?_drop]
    exact hv
theorem k64 {v:Value} {e:TypeId} {size n:Nat} {cs:List Value} (h:w.ownsRow 0 e size v n cs):kb1 v=v.ownBlock:=by
  rcases h.2 with ⟨rfl,_⟩ | ⟨g,cap,cur,rfl,_⟩ <;> rfl
theorem kwm {v:Value} {e:TypeId} {size n b:Nat} {cs:List Value} (h:w.ownsRow 0 e size v n cs) (hb:v.ownBlock=some b):Blk v b := .of (by rw [k64 h];exact hb)
theorem k6r {v:Value} {e:TypeId} {size n b:Nat} {cs:List Value} (h:w.ownsRow 0 e size v n cs) (hb:Blk v b):v.ownBlock=some b:=by
  rw [← k64 h]
  rcases h.2 with ⟨rfl,_⟩ | ⟨g,cap,cur,rfl,_⟩ <;> exact hb.sl
theorem k7a {v:Value} {e:TypeId} {size n:Nat} {cs:List Value} (h:w.ownsRow 0 e size v n cs):v.oneCell'=true:=by
  rcases h.2 with ⟨rfl,_⟩ | ⟨g,cap,cur,rfl,_⟩ <;> rfl
theorem kads {x y:Operand} {e:TypeId} {de:TD} {n m:Nat} {xs zs:List FV} (ho:o.op = .call { callee := .builtin .append,args:=#[x,y],argTypes:=#[t,t] }) (hd:TdOk P t d) (hk:d.kind = .slice e) (hde:TdOk P e de) (hz:0<de.size) (hzl:de.zero.length=de.size)
    (hx:st.eval x = .row id n) (hob:kab st.heap id=some (.frow e de.size xs)) (hn:n=xs.length) (hy:st.eval y = .fz (.lst de.size m zs)∨st.eval y = .lim de.size m zs) (hlen:(xs.length+zs.length)*(de.bytes+1)≤140737488355328):
    kdf P o st (.row id (xs++zs).length) ((id, .frow e de.size (xs++zs))::st.heap) st.ids:=by
  subst hn
  intro F S0 N0 ψ S a w hs'
  have hcore:=hs'.core
  obtain ⟨hid,⟨h0,hsz,cs,hown,hel,hr⟩,hfr⟩:=hcore.obj id _ hob
  have hv:=hs'.eval x
  rw [hx] at hv
  have hvx:a.eval x=ψ.val id:=by
    generalize a.eval x=u at hv
    cases hv with
    | row hK hn h1 hv=>exact hv h0.symm
  have hvy:RF S w (a.eval y) (.lst de.size m zs):=by
    have hv:=hs'.eval y
    rcases hy with hy | hy
    · rw [hy] at hv;exact hv.inv
    · rw [hy] at hv
      generalize a.eval y=u at hv
      cases hv with
      | lim h=>exact h
  have hlen':=hlen
  rw [Nat.mul_add,Nat.mul_one] at hlen'
  obtain ⟨v',w',news,hrun,hown',hgrow,hob',hnl,hnr,hnel,hnil⟩:=kain (ty:=o.type) (hd.slice hk) hde hz hzl hown hvy (by omega) (by omega)
  have hlx:(xs++zs).length=xs.length+zs.length:=ql
  have hx2:ψ.len id<(xs++zs).length∨(ψ.len id=(xs++zs).length∧v'=ψ.val id):=by
    by_cases h0':zs=[]
    · refine .inr ⟨by rw [h0,h0'];simp,hnil h0'⟩
    · have:0<zs.length:=List.length_pos_iff.2 h0'
      exact .inl (by omega)
  have hoth:∀ k,k<w.heap.size→¬ Blk (ψ.val id) k→w'.heap[k]?=w.heap[k]?:=fun k hk hne=>hgrow.block k hk fun e=>hne (kwm hown e.symm)
  have hk2:Same S w w':=fun k hk hl=>hoth k hl fun e=>(hfr k e).1 hk
  obtain ⟨c1,c2,c3⟩:=hcore.upd (n:=(xs++zs).length) (v:=v') (w':=w') (ob' := .frow e de.size (xs++zs)) hob hgrow.size hoth hx2 (fun b hb=>by
      have hb:=k6r hown' hb
      rcases hob' with h | h
      · exact .inl (kwm hown (h ▸ hb))
      · rw [h] at hb;injection hb with hb;exact .inr (by omega))
    ⟨ke1 _ _,hsz,cs++news,by rw [kbn,hlx];exact hown',fun z hz=>(qam.1 hz).elim (hel z) (hnel z),(RowR.append hsz (fun i x j v y h1 h2 h3=>hr i x j v y h1 h2 h3) hnr hown.1 hel).keep hk2⟩
  refine kam (w':=w') (v:=v') ?_ ⟨_,S,c1, .row hid (by rw [ke1];exact qw _) (k7a hown') (fun _=>(kbn _ _).symm),⟨hgrow.os,hgrow.tape,hgrow.output,hgrow.size,c3⟩,k0s hx2,fun _ h=>h,fun _ h=>h,c2⟩
  simp only [execOp,ho,resolve,invoke,builtin,Sem.run_bind,Sem.run_pure,Result.andThen_ok,List.map_toArray,qah,List.map_nil,hvx,hrun]
theorem kl3 {e:TypeId} {size t:Nat} (hz:0<size) (hx:st.get t = .fz (.atom (.slice none 0 0)):=by kernel_rfl) (hid:st.ids.contains id=false:=by kernel_rfl):
    LeSt st { st with tmps:=(t, .row id 0)::st.tmps,heap:=(id, .frow e size [])::st.heap,ids:=id::st.ids }:=by
  have hid:id∉st.ids:=by simpa using hid
  intro F S0 N0 ψ S a w hs
  have hadd:=hs.core.add (n:=0) (v := .slice none 0 0) (w':=w) (ob := .frow e size []) (kaj _) hid (fun b hb=>by cases hb) ⟨ke1 _ _,hz,[],by rw [kbn];exact ⟨by simp, .inl ⟨rfl,rfl⟩⟩,(fun x hx=>by cases hx),fun i x j v y h=>by simp at h⟩
  refine ⟨ψ.set id 0 (.slice none 0 0),S,hs.defers,hs.size,fun k=>?_,hadd⟩
  simp only [St.get,kdg]
  split
  · rename_i hk
    subst hk
    have:=hs.tmps t
    rw [hx] at this
    rw [this.atom]
    exact .row (qo ..) (qx _) rfl fun _=>(kbn _ _).symm
  · exact (hs.tmps k).keep (keo hid _ _) (fun _ h=>qk _ h) (fun _ h=>h) (fun _ _ _=>rfl)
end
end Go.Proofs.YtaimpcnpifoidaaGreatDoor
