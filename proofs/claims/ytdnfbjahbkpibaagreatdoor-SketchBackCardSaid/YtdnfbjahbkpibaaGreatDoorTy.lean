import Derived.Test.YtdnfbjahbkpibaaGreatDoorSim
import Derived.Laws.CopyRow
import Derived.Laws.Rows
import Derived.Great.FillDense
set_option linter.all false
set_option linter.unusedSectionVars false
namespace Go.Proofs.YtdnfbjahbkpibaaGreatDoor
open Go Go.RowKit
variable [Dr]
inductive TK where
  | bool
  | int (k:IntKind)
  | str
  | ptr (e:TypeId)
  | slice (e:TypeId)
  | map (k e:TypeId)
  | fn
  | ifc
  | arr (n:Nat) (e:TypeId)
  | st (fs:List (TypeId×Nat))
structure TD where
  size:Nat
  bytes:Nat
  kind:TK
  zero:List Value
def TK.agg:TK->Bool
  | .arr _ _=>true
  | .st _=>true
  | _=>false
def kfz:TypeDesc->TK->Prop
  | .bool, .bool=>True
  | .int k, .int k'=>k=k'
  | .string, .str=>True
  | .pointer e, .ptr e'=>e=e'
  | .slice e, .slice e'=>e=e'
  | .map k e, .map k' e'=>k=k'/\e=e'
  | .func _ _ _, .fn=>True
  | .interface _, .ifc=>True
  | .array n e, .arr n' e'=>n=n'/\e=e'
  | .struct fs, .st gs=>fs.toList.map (fun f=>(f.type,f.offset))=gs
  | _,_=>False
def TdOk (P:Program) (t:TypeId) (d:TD):Prop:=
  (∃ i z,P.info? t=some i/\i.size=d.size/\i.bytes=d.bytes/\i.zero=some z/\z.cells.toList=d.zero)/\∃ e,P.underlying t=some e/\kfz e d.kind
def kad:List (TypeId×TD)->TypeId->Option TD
  | [],_=>none
  | (k,v)::l,t=>bif Nat.beq k t then some v else kad l t
def TOk (P:Program) (T:List (TypeId×TD)):Prop:=∀ p∈T,TdOk P p.1 p.2
theorem TOk.get {P:Program} {T:List (TypeId×TD)} (h:TOk P T) {t:TypeId} {d:TD} (ht:kad T t=some d):TdOk P t d:=by
  induction T with
  | nil=>cases ht
  | cons p l ih=>
    obtain ⟨k,v⟩:=p;simp only [kad] at ht;by_cases hk:k=t
    · subst hk
      simp only [Nat.beq_refl,qe,qc] at ht;subst ht;exact h _ (qv ..)
    · rw [Nat.beq_eq_false hk] at ht
      exact ih (fun p hp=>h p (qh _ hp)) ht
def kOf:TypeDesc->Option TK
  | .bool=>some .bool
  | .int k=>some (.int k)
  | .string=>some .str
  | .pointer e=>some (.ptr e)
  | .slice e=>some (.slice e)
  | .map k e=>some (.map k e)
  | .func _ _ _=>some .fn
  | .interface _=>some .ifc
  | .array n e=>some (.arr n e)
  | .struct fs=>some (.st (fs.toList.map (fun f=>(f.type,f.offset))))
  | _=>none
theorem kakd {e:TypeDesc} {k:TK} (h:kOf e=some k):kfz e k:=by cases e <;> first | (injection h with h;subst h;simp [kfz]) | cases h
def tdOf (P:Program) (t:TypeId):Option TD:=match P.info? t,P.underlying t with
  | some i,some e=>match i.zero,kOf e with
    | some z,some k=>some ⟨i.size,i.bytes,k,z.cells.toList⟩
    | _,_=>none
  | _,_=>none
theorem kaij {P:Program} {t:TypeId} {d:TD} (h:tdOf P t=some d):TdOk P t d:=by
  unfold tdOf at h;split at h
  · rename_i i e hi a
    split at h
    · rename_i z k b hk
      injection h with h;subst h;exact ⟨⟨i,z,hi,rfl,rfl,b,rfl⟩,e,a,kakd hk⟩
    · cases h
  · cases h
theorem kab0 {P:Program}:∀ {T:List (TypeId×TD)},T.map (fun p=>tdOf P p.1)=T.map (fun p=>some p.2)->TOk P T
  | [],_=>fun p hp=>by cases hp
  | x::l,h=>by
    simp only [qa5,List.cons.injEq] at h;intro p hp;rcases qae.1 hp with rfl | hp
    · exact kaij h.1
    · exact kab0 h.2 p hp
def intV (k:IntKind) (op:BinOp) (a b:Int):Option Value:=match op with
  | .add=>some (.int k (k.wrap (a+b)))
  | .sub=>some (.int k (k.wrap (a - b)))
  | .mul=>some (.int k (k.wrap (a*b)))
  | .quo=>if b=0 then none else some (.int k (k.wrap (a.tdiv b)))
  | .rem=>if b=0 then none else some (.int k (a.tmod b))
  | .and=>some (.int k (k.wrap (BitVec.ofInt k.bits a &&& BitVec.ofInt k.bits b).toNat))
  | .or=>some (.int k (k.wrap (BitVec.ofInt k.bits a ||| BitVec.ofInt k.bits b).toNat))
  | .xor=>some (.int k (k.wrap (BitVec.ofInt k.bits a ^^^ BitVec.ofInt k.bits b).toNat))
  | .andNot=>some (.int k (k.wrap (BitVec.ofInt k.bits a &&& ~~~BitVec.ofInt k.bits b).toNat))
  | .eql=>some (.bool (a == b))
  | .neq=>some (.bool (a != b))
  | .lss=>some (.bool (decide (a<b)))
  | .leq=>some (.bool (decide (a<=b)))
  | .gtr=>some (.bool (decide (b<a)))
  | .geq=>some (.bool (decide (b<=a)))
  | _=>none
def shV (k:IntKind) (op:BinOp) (a b:Int):Option Value:=match op with
  | .shl=>if b<0 then none else some (.int k (k.wrap (a*2 ^ (min b.toNat k.bits))))
  | .shr=>if b<0 then none else some (.int k (a.fdiv (2 ^ (min b.toNat k.bits))))
  | _=>none
def strV (op:BinOp) (x y:BA):Option Value:=match op with
  | .eql=>some (.bool (x.toList == y.toList))
  | .neq=>some (.bool !(x.toList == y.toList))
  | .lss=>some (.bool (Op.bytesLess x.toList y.toList))
  | .leq=>some (.bool (Op.bytesLess x.toList y.toList || x.toList == y.toList))
  | .gtr=>some (.bool !(Op.bytesLess x.toList y.toList || x.toList == y.toList))
  | .geq=>some (.bool !(Op.bytesLess x.toList y.toList))
  | _=>none
def binV (bt:Bool) (op:BinOp):Value->Value->Option Value
  | .int k a, .int k' b=>match op with
    | .shl=>shV k .shl a b
    | .shr=>shV k .shr a b
    | op=>if k=k' then intV k op a b else none
  | .string x, .string y=>strV op x y
  | .bool x, .bool y=>match bt,op with
    | true, .eql=>some (.bool (x == y))
    | true, .neq=>some (.bool (!(x == y)))
    | _,_=>none
  | _,_=>none
def unV (op:UnOp):Value->Option Value
  | .int k n=>match op with
    | .neg=>some (.int k (k.wrap (0 - n)))
    | .xor=>some (.int k (k.wrap (BitVec.ofInt k.bits (if k.signed then -1 else k.max) ^^^ BitVec.ofInt k.bits n).toNat))
    | _=>none
  | .bool b=>match op with
    | .not=>some (.bool !b)
    | _=>none
  | _=>none
variable {P:Program} {w w':World} {S S':Nat->Prop} {ψ:Env} {K:Nat->Prop} {T:List (TypeId×TD)} {o:Oper} {a:Act} {st:St}
theorem kaci {op:BinOp} {t:TypeId} {k:IntKind} {a b:Int} {v:Value} (hs:op ≠ .shl/\op ≠ .shr) (h:intV k op a b=some v):(binOp op t (.int k a) (.int k b)).run P w = .ok v w:=by
  cases op <;> simp only [intV] at h <;> first
    | exact absurd rfl hs.1
    | exact absurd rfl hs.2
    | (injection h with h;subst h;simp only [binOp,ne_eq,not_true_eq_false,if_false];rfl)
    | (split at h
       · cases h
       · rename_i c
         injection h with h;subst h;simp only [binOp,ne_eq,not_true_eq_false,if_false,Op.intDiv,qi c];rfl)
theorem k4s {op:BinOp} {t:TypeId} {k k':IntKind} {a b:Int} {v:Value} (hs:op = .shl\/op = .shr) (h:shV k op a b=some v):(binOp op t (.int k a) (.int k' b)).run P w = .ok v w:=by
  rcases hs with rfl | rfl <;> simp only [shV] at h <;>
    (split at h
     · cases h
     · rename_i c
       injection h with h;subst h;simp only [binOp,Op.shift,qi c];rfl)
theorem kacp {op:BinOp} {t:TypeId} {x y:BA} {v:Value} (h:strV op x y=some v):(binOp op t (.string x) (.string y)).run P w = .ok v w:=by
  cases op <;> simp only [strV] at h <;> first
    | (injection h with h;subst h;rfl)
    | cases h
theorem kadq {bt:Bool} {op:BinOp} {t:TypeId} {x y v:Value} (e:bt=true->P.underlying t=some .bool) (h:binV bt op x y=some v):(binOp op t x y).run P w = .ok v w:=by
  cases x <;> cases y <;> simp only [binV] at h <;> try cases h
  case int.int k a k' b=>
    by_cases h1:op = .shl
    · subst h1;exact k4s (.inl rfl) h
    by_cases c:op = .shr
    · subst c;exact k4s (.inr rfl) h
    have d:(if k=k' then intV k op a b else none)=some v:=by cases op <;> first | exact h | exact absurd rfl h1 | exact absurd rfl c
    split at d
    · rename_i hk
      subst hk;exact kaci ⟨h1,c⟩ d
    · cases d
  case string.string x y=>exact kacp h
  case bool.bool x y=>
    cases bt with
    | false=>cases h
    | true=>
      have f:=e rfl;have g:(Op.equal t (.bool x) (.bool y)).run P w = .ok (x == y) w:=(by unfold Op.equal;rw [show Op.maxDepth=9999+1 from rfl,Op.equalIn,Sem.run_bind,run_underlying f,Result.andThen_ok];rfl);cases op <;> simp only at h <;> first
        | (injection h with h;subst h;simp only [binOp,Sem.run_bind,g,Result.andThen_ok];rfl)
        | cases h
theorem kahd {op:UnOp} {x v:Value} (h:unV op x=some v):(Op.unary op x).run P w = .ok v w:=by
  cases x <;> simp only [unV] at h <;> try cases h
  case int k n=>cases op <;> simp at h <;> (subst h;simp [Op.unary,Op.intArith,Op.intBits])
  case bool b=>cases op <;> simp at h <;> (subst h;simp [Op.unary])
theorem kaep {bt:Bool} {op:BinOp} {x y v:Value} (h:binV bt op x y=some v):v.oneCell'=true:=by
  cases x <;> cases y <;> simp only [binV] at h <;> try cases h
  case int.int k a k' b=>
    cases op <;> simp only [shV,intV] at h <;> (repeat' split at h) <;> first
      | (injection h with h;subst h;rfl)
      | cases h
  case string.string x y=>cases op <;> simp only [strV] at h <;> first | (injection h with h;subst h;rfl) | cases h
  case bool.bool x y=>cases bt <;> cases op <;> first | (injection h with h;subst h;rfl) | cases h
theorem kais {op:UnOp} {x v:Value} (h:unV op x=some v):v.oneCell'=true:=by cases x <;> cases op <;> simp [unV] at h <;> (subst h;rfl)
theorem kae (w':World) {R:Value->World->Prop} (v:Value) (h:(execOp a.eval o).run P w = .ok (.value v) w') (hr:R v w'):kdf P o a w R:=by unfold kdf;rw [h];exact hr
theorem kj1 (w':World) {R:Value->World->Prop} (h:(execOp a.eval o).run P w = .ok .skip w') (hr:R undef w'):kdf P o a w R:=by unfold kdf;rw [h];exact hr
theorem RV.here {v:Value} {x:AV} (h:RV ψ K S w v x):RV ψ K (fun b=>S b\/w.heap.size<=b) w v x:=h.mono (fun _ h=>h) fun _ h => .inl h
def kag3:Value->Bool
  | .int ..=>true
  | .string _=>true
  | .bool _=>true
  | _=>false
theorem kub {op:BinOp} {t:TypeId} {x y:Operand} {u v:Value} (a:kag3 u=true):(eqGuard op t x y u v).run P w = .ok () w:=by unfold eqGuard;cases u <;> cases a <;> cases op <;> simp
theorem k83 {bt:Bool} {op:BinOp} {u v r:Value} (h:binV bt op u v=some r):kag3 u=true:=by cases u <;> cases v <;> first | rfl | cases h
theorem kaai {op:BinOp} {t yt:TypeId} {x y:Operand} {u v r:Value} (bt:Bool) (c:bt=true->P.underlying t=some .bool) (d:o.op = .binOp op t x y yt) (hx:st.eval x = .fz (.atom u)) (hy:st.eval y = .fz (.atom v)) (h:binV bt op u v=some r):NStep P o st (.fz (.atom r)):=by intro ψ S a w ht _;have h1:=Sim.eval_tmps ht x;have b:=Sim.eval_tmps ht y;rw [hx] at h1;rw [hy] at b;refine kae w r ?_ ⟨kaf _, .fz (.atom (kaep h))⟩;simp [execOp,d,h1.atom,b.atom,kadq c h,kub (k83 h)]
theorem n_un {op:UnOp} {t:TypeId} {x:Operand} {u r:Value} (b:o.op = .unOp op t x) (hx:st.eval x = .fz (.atom u)) (h:unV op u=some r):NStep P o st (.fz (.atom r)):=by intro ψ S a w ht _;have h1:=Sim.eval_tmps ht x;rw [hx] at h1;refine kae w r ?_ ⟨kaf _, .fz (.atom (kais h))⟩;simp [execOp,b,h1.atom,kahd h]
theorem kzn {x:Operand} (b:o.op = .move x\/o.op = .assign x):NStep P o st (st.eval x):=by intro ψ S a w ht _;refine kae w (a.eval x) ?_ ⟨kaf _,(Sim.eval_tmps ht x).here⟩;rcases b with b | b <;> simp [execOp,b]
theorem kab9 {c x y:Operand} {b:Bool} (d:o.op = .pick c x y) (hc:st.eval c = .fz (.atom (.bool b))):NStep P o st (bif b then st.eval x else st.eval y):=by
  intro ψ S a w ht _;have h1:=Sim.eval_tmps ht c;rw [hc] at h1;refine kae w (bif b then a.eval x else a.eval y) ?_ ⟨kaf _,?_⟩
  · cases b <;> simp [execOp,d,h1.atom,asBool]
  · cases b
    · exact (Sim.eval_tmps ht y).here
    · exact (Sim.eval_tmps ht x).here
end Go.Proofs.YtdnfbjahbkpibaaGreatDoor
set_option linter.all false
namespace Go.Proofs.YtdnfbjahbkpibaaGreatDoor
open Go Go.RowKit
variable [Dr]
def km7:List AV->Option (List FV)
  | []=>some []
  | .fz x::l=>(km7 l).map (x::·)
  | _::_=>none
def aggA (xs:List AV):AV:=match km7 xs with
  | some ys => .fz (.agg ys)
  | none => .agg xs
def tupA (xs:List AV):AV:=match km7 xs with
  | some ys => .fz (.tup ys)
  | none => .tup xs
def kl5 (d:TD) (xs:List AV):Option AV:=bif d.kind.agg then (bif Nat.ble d.size xs.length then some (aggA (xs.take d.size)) else none) else xs.head?
def kml (st:St):AV->Option (List AV)
  | .fz (.fp cs)=>some (cs.map .fz)
  | .ref id n off=>match kaa st.heap id with
    | some (.box _ cells)=>bif Nat.beq n 0 then some (cells.drop off) else none
    | _=>none
  | _=>none
variable {P:Program} {w w':World} {S S':Nat->Prop} {ψ:Env} {K:Nat->Prop} {T:List (TypeId×TD)} {o:Oper} {a:Act} {st:St} {t:TypeId} {d:TD}
theorem TdOk.size (h:TdOk P t d):(sizeOf t).run P w = .ok d.size w:=by obtain ⟨⟨i,z,h1,a,_⟩,_⟩:=h;simp [sizeOf,typeInfo,h1,a]
theorem TdOk.info (h:TdOk P t d):(P.info? t).map (·.size)=some d.size:=by obtain ⟨⟨i,z,h1,a,_⟩,_⟩:=h;simp [h1,a]
theorem TdOk.isAgg (h:TdOk P t d):(isAgg t).run P w = .ok d.kind.agg w:=by obtain ⟨_,e,h1,a⟩:=h;unfold Go.isAgg;rw [Sem.run_bind,run_underlying h1];cases e <;> cases hk:d.kind <;> simp [kfz,hk,TK.agg] at a ⊢
theorem TdOk.zero (h:TdOk P t d):∃ z,(zeroValue t).run P w = .ok z w/\z.cells.toList=d.zero:=by obtain ⟨⟨i,z,h1,c,e,a,b⟩,_⟩:=h;exact ⟨z,by simp [zeroValue,typeInfo,h1,a],b⟩
theorem TdOk.strct {fs:List (TypeId×Nat)} (h:TdOk P t d) (hk:d.kind = .st fs):∃ gs:Array Field,(∀ w,(underlying t).run P w = .ok (.struct gs) w)/\gs.toList.map (fun f=>(f.type,f.offset))=fs:=by obtain ⟨_,e,h1,a⟩:=h;rw [hk] at a;cases e <;> simp [kfz] at a;exact ⟨_,fun w=>run_underlying h1 w,a⟩
theorem TdOk.arr {n e:Nat} (h:TdOk P t d) (hk:d.kind = .arr n e):P.underlying t=some (.array n e):=by obtain ⟨_,e',h1,a⟩:=h;rw [hk] at a;cases e' <;> simp [kfz] at a;rw [h1,a.1,a.2]
theorem TdOk.slice {e:Nat} (h:TdOk P t d) (hk:d.kind = .slice e):P.underlying t=some (.slice e):=by obtain ⟨_,e',h1,a⟩:=h;rw [hk] at a;cases e' <;> simp [kfz] at a;rw [h1,a]
theorem TdOk.str (h:TdOk P t d) (hk:d.kind = .str):P.underlying t=some .string:=by obtain ⟨_,e',h1,a⟩:=h;rw [hk] at a;cases e' <;> simp [kfz] at a;rw [h1]
theorem kmv:∀ {xs:List AV} {ys:List FV},km7 xs=some ys->xs=ys.map .fz
  | [],ys,h=>by simp [km7] at h;subst h;rfl
  | .fz x::l,ys,h=>by simp only [km7,qq] at h;obtain ⟨zs,a,rfl⟩:=h;rw [kmv a];rfl
theorem RV.aggA {cs:Array Value} {xs:List AV} (h:cs.size=xs.length) (h1:∀ x∈xs,x.single=true) (hr:∀ (i:Nat) (v:Value) (x:AV),cs[i]?=some v->xs[i]?=some x->RV ψ K S w v x):RV ψ K S w (.agg cs) (aggA xs):=by
  unfold Go.Proofs.YtdnfbjahbkpibaaGreatDoor.aggA;cases hy:km7 xs with
  | none=>exact .agg h h1 hr
  | some ys=>
    have:=kmv hy;subst this;exact .fz (.agg (by simpa using h) (fun x hx=>h1 (.fz x) (by simp [hx])) fun i v x hv hx=>(hr i v (.fz x) hv (by simp [hx])).inv)
theorem RV.tupA {cs:Array Value} {xs:List AV} (h:cs.size=xs.length) (hr:∀ (i:Nat) (v:Value) (x:AV),cs[i]?=some v->xs[i]?=some x->RV ψ K S w v x):RV ψ K S w (.tuple cs) (tupA xs):=by
  unfold Go.Proofs.YtdnfbjahbkpibaaGreatDoor.tupA;cases hy:km7 xs with
  | none=>exact .tup h hr
  | some ys=>
    have:=kmv hy;subst this;exact .fz (.tup (by simpa using h) fun i v x hv hx=>(hr i v (.fz x) hv (by simp [hx])).inv)
def k9f (ψ:Env) (K S:Nat->Prop) (w:World) (b o:Nat) (xs:List AV):Prop:=
  ∃ cs:List Value,At w b o cs/\cs.length=xs.length/\(∀ x∈xs,x.single=true)/\∀ (i:Nat) (v:Value) (x:AV),cs[i]?=some v->xs[i]?=some x->RV ψ K S w v x
theorem ktg {v:Value} {x:AV} {xs:List AV} (hv:RV ψ (·∈st.ids) S w v x) (f:∀ id o,kaa st.heap id=some o->ObR ψ (·∈st.ids) S w id o) (h:kml st x=some xs):
    ∃ b o,v = .pointer (some ⟨b,o,none⟩)/\k9f ψ (·∈st.ids) S w b o xs:=by
  cases x with
  | fz x=>
    cases x with
    | fp cs=>
      simp only [kml,qc] at h;subst h;cases hv with
      | fz hv=>
        cases hv with
        | @fp b o _ vs hS ha hl h0 h1 hr=>
          refine ⟨b,o,rfl,vs,ha,by simpa using hl,fun x hx=>?_,fun i v x hv hx=>?_⟩
          · simp only [qai] at hx
            obtain ⟨y,hy,rfl⟩:=hx;exact h1 y hy
          · simp only [qn,qq] at hx
            obtain ⟨y,hy,rfl⟩:=hx;exact .fz (hr i v y hv hy)
    | _=>cases h
  | ref id n off=>
    simp only [kml] at h;split at h
    · rename_i e cells g
      cases hn:Nat.beq n 0 with
      | false=>rw [hn] at h;cases h
      | true=>
        rw [hn] at h;simp only [qe,qc] at h;subst h;obtain rfl:=qk hn;obtain ⟨h0,b,cs,h1,k,l,m,p⟩:=f id _ g;cases hv with
        | ref hK q r c=>
          obtain ⟨b',a,rfl⟩:=c h0.symm;rw [h1] at a;simp only [kak,qc] at a;subst a;refine ⟨b,off,rfl,cs.toList.drop off,fun j u d=>?_,by simp [l],fun x hx=>m x (qbs hx),fun i v x hv hx=>?_⟩
          · rw [qam] at d
            simp only [World.cell?,k];simpa using d
          · rw [qam] at hv hx
            exact p _ v x (by simpa using hv) hx
    · cases h
  | _=>cases h
theorem kak1 {x:Operand} {xs:List AV} {c:AV} (n:o.op = .load t x) (hd:TdOk P t d) (hx:kml st (st.eval x)=some xs) (hc:kl5 d xs=some c):NStep P o st c:=by
  intro ψ S a w ht q;obtain ⟨b,off,hv,cs,h,hl,h1,hr⟩:=ktg (Sim.eval_tmps ht x) q hx;unfold kl5 at hc;cases hk:d.kind.agg with
  | false=>
    rw [hk] at hc;simp only [qd] at hc;cases xs with
    | nil=>cases hc
    | cons y ys=>
      simp only [List.head?_cons,qc] at hc;subst hc;have k:cs[0]?=some (cs[0]'(by simp at hl;omega)):=qb _;have f:w.cell? ⟨b,off,none⟩=some (cs[0]'(by simp at hl;omega)):=(by simpa using h 0 _ k);refine kae w (cs[0]'(by simp at hl;omega)) ?_ ⟨kaf _,(hr 0 _ y k rfl).here⟩;simp [execOp,n,hv,Instr.loadAt,Instr.sureAddr,loadVar,hd.isAgg,hk,f]
  | true=>
    rw [hk] at hc;simp only [qe] at hc;cases g:Nat.ble d.size xs.length with
    | false=>rw [g] at hc;cases hc
    | true=>
      rw [g] at hc;simp only [qe,qc] at hc;subst hc;have p:=qp g;have l:(cs.take d.size).length=d.size:=(by rw [qad];omega);have e:=run_loadCells_list (P:=P) w ⟨b,off,none⟩ (cs.take d.size) fun j v m=>by
        rw [qaa] at m;split at m
        · have:=h j v m
          simp only [Addr.add];split
          · rename_i h0;subst h0;simpa using this
          · exact this
        · cases m
      rw [l] at e;refine kae w (.agg (cs.take d.size).toArray) ?_ ⟨kaf _,(RV.aggA (by simp [hl]) (fun x hx=>h1 x (qbl hx)) fun i v x hv hx=>?_).here⟩
      · simp [execOp,n,hv,Instr.loadAt,Instr.sureAddr,loadVar,hd.isAgg,hk,hd.size,e]
      · simp only [qb6] at hv
        rw [qaa] at hv hx;split at hv
        · rename_i hi;rw [qo hi] at hx;exact hr i v x hv hx
        · cases hv
def koq (st:St) (off:Nat) (x:AV):Option AV:=match x with
  | .fz (.fp cs)=>match cs.drop off with
    | []=>none
    | y::ys=>some (.fz (.fp (y::ys)))
  | .ref id n o=>match kaa st.heap id with
    | some (.box _ cells)=>bif Nat.beq n 0 then some (.ref id n (o+off)) else none
    | _=>none
  | _=>none
theorem kbg (b o n:Nat):(⟨b,o,none⟩:Addr).add n=⟨b,o+n,none⟩:=by
  unfold Addr.add;split
  · rename_i h;subst h;rfl
  · rfl
theorem kra {off:Nat} {v:Value} {x c:AV} (hv:RV ψ (·∈st.ids) S w v x) (m:∀ id o,kaa st.heap id=some o->ObR ψ (·∈st.ids) S w id o) (h:koq st off x=some c):
    ∃ b o,v = .pointer (some ⟨b,o,none⟩)/\RV ψ (·∈st.ids) S w (.pointer (some ⟨b,o+off,none⟩)) c:=by
  cases x with
  | fz x=>
    cases x with
    | fp cs=>
      simp only [koq] at h;cases hv with
      | fz hv=>
        cases hv with
        | @fp b o _ vs hS ha hl h0 h1 hr=>
          split at h
          · cases h
          · rename_i y ys hd
            injection h with h;subst h;refine ⟨b,o,rfl, .fz ?_⟩;rw [<- hd];have k:off<cs.length:=by
              rcases qbi off cs.length with a | a
              · exact a
              · rw [qbj a] at hd;cases hd
            refine .fp (vs.drop off) hS (fun j u l=>?_) (by simp [hl]) (by rw [qa2];omega) (fun x hx=>h1 x (qbs hx)) fun i v x hv hx=>?_
            · rw [qam] at l
              have:=ha _ u l
              rwa [<- Nat.add_assoc] at this
            · rw [qam] at hv hx
              exact hr _ v x hv hx
    | _=>cases h
  | ref id n off'=>
    simp only [koq] at h;split at h
    · rename_i e cells p
      cases hn:Nat.beq n 0 with
      | false=>rw [hn] at h;cases h
      | true=>
        rw [hn] at h;simp only [qe,qc] at h;subst h;obtain rfl:=qk hn;obtain ⟨h0,b,cs,h1,r,s,t,z⟩:=m id _ p;cases hv with
        | ref hK d q f=>
          obtain ⟨b',g,rfl⟩:=f h0.symm;exact ⟨b',off',rfl, .ref hK d rfl fun _=>⟨b',g,rfl⟩⟩
    · cases h
  | _=>cases h
theorem kah1 {s:TypeId} {x:Operand} {f:Nat} {fs:List (TypeId×Nat)} {ft:TypeId} {off:Nat} {df:TD} {c:AV} (l:o.op = .fieldAddr s x f) (hd:TdOk P s d) (hk:d.kind = .st fs) (k:fs[f]?=some (ft,off)) (h:TdOk P ft df) (m:df.size≠0)
    (hc:koq st off (st.eval x)=some c):NStep P o st c:=by
  intro ψ S a w ht n;obtain ⟨b,off',hv,hr⟩:=kra (Sim.eval_tmps ht x) n hc;obtain ⟨gs,p,i⟩:=hd.strct hk;have e:∃ g:Field,gs[f]?=some g/\g.type=ft/\g.offset=off:=by rw [<- i,qn,qq] at k;obtain ⟨g,e,j⟩:=k;simp only [qw] at j;exact ⟨g,by simpa using e,j.1,j.2⟩
  obtain ⟨g,e,rfl,rfl⟩:=e;refine kae w _ ?_ ⟨kaf _,hr.here⟩;simp [execOp,l,hv,Instr.fieldAt,p,e,Instr.sureAddr,fieldPlace,h.size,m,kbg]
theorem k18 {x:Operand} {i:Nat} {c:AV} (d:o.op = .extract x i) (hc:(match st.eval x with | .fz (.tup xs)=>(xs[i]?).map .fz | .tup xs=>xs[i]? | _=>none)=some c):NStep P o st c:=by
  intro ψ S a w ht g;have hv:=Sim.eval_tmps ht x;have key:∃ (cs:Array Value) (v:Value),a.eval x = .tuple cs/\cs[i]?=some v/\RV ψ (·∈st.ids) S w v c:=by
    generalize st.eval x=y at hv hc;generalize a.eval x=u at hv;split at hc
    · rename_i xs
      have hv:=hv.inv;cases hv with
      | @tup cs _ hl hr=>
        simp only [qq] at hc;obtain ⟨z,b,rfl⟩:=hc;have hi:i<cs.size:=(by rw [hl];exact (qf.1 b).1);exact ⟨cs,cs[i],rfl,by simp [hi], .fz (hr i _ z (by simp [hi]) b)⟩
    · rename_i xs
      cases hv with
      | @tup cs _ hl hr=>
        have hi:i<cs.size:=(by rw [hl];exact (qf.1 hc).1);exact ⟨cs,cs[i],rfl,by simp [hi],hr i _ c (by simp [hi]) hc⟩
    · cases hc
  obtain ⟨cs,v,h1,e,f⟩:=key;refine kae w v ?_ ⟨kaf _,f.here⟩;simp [execOp,d,h1,Instr.extract,e]
theorem k9d {x:Operand} {c:AV} (d:o.op = .nilCheck x) (hc:koq st 0 (st.eval x)=some c):NStep P o st c:=by intro ψ S a w ht e;obtain ⟨b,off',hv,hr⟩:=kra (Sim.eval_tmps ht x) e hc;refine kae w _ ?_ ⟨kaf _,hr.here⟩;simp [execOp,d,hv]
end Go.Proofs.YtdnfbjahbkpibaaGreatDoor
set_option linter.all false
namespace Go.Proofs.YtdnfbjahbkpibaaGreatDoor
open Go Go.RowKit
variable [Dr]
def kcg {α:Type} (cells:List α) (off:Nat) (xs:List α):List α:=cells.take off++(xs++cells.drop (off+xs.length))
def krh (place:Nat->Option (Nat×Nat)) (cells:List AV):List (Nat×AV)->Option (List AV)
  | []=>some cells
  | (i,x)::rest=>match place i with
    | none=>none
    | some (off,size)=>bif Nat.beq x.cells.length size && (Nat.ble (off+size) cells.length && x.cells.all AV.single) then krh place (kcg cells off x.cells) rest else none
def kq1 (d:TD):Option (List AV):=bif d.zero.all (·.oneCell') then some (d.zero.map fun v => .fz (.atom v)) else none
variable {P:Program} {w w':World} {S S':Nat->Prop} {ψ:Env} {K:Nat->Prop} {T:List (TypeId×TD)} {o:Oper} {a:Act} {st:St} {t:TypeId} {d:TD}
def PW (ψ:Env) (K S:Nat->Prop) (w:World) (cs:Array Value) (xs:List AV):Prop:=
  cs.size=xs.length/\∀ (i:Nat) (v:Value) (x:AV),cs[i]?=some v->xs[i]?=some x->RV ψ K S w v x
theorem klr {α:Type} (cells:List α) (off:Nat) (xs:List α) (h:off+xs.length<=cells.length) (k:Nat):(kcg cells off xs)[k]?=if off<=k/\k<off+xs.length then xs[k - off]? else cells[k]?:=by
  unfold kcg;by_cases h1:k<off
  · rw [qac (by rw [qad];omega),qaa,qo h1,qi (by omega)]
  · rw [qab (by rw [qad];omega),qad,Nat.min_eq_left (by omega)]
    by_cases a:k<off+xs.length
    · rw [qac (by omega),qo (by omega)]
    · rw [qab (by omega),qam,qi (by omega)]
      congr 1;omega
theorem kjj {α:Type} (cells:List α) (off:Nat) (xs:List α) (h:off+xs.length<=cells.length):(kcg cells off xs).length=cells.length:=by unfold kcg;simp only [qy,qad,qa2];omega
theorem k0v (place:Nat->Option (Nat×Nat)):∀ (parts:List (Nat×Value)) (as_:List (Nat×AV)) (cells:Array Value) (xs rs:List AV),PW ψ K S w cells xs->(∀ x∈xs,x.single=true)->parts.length=as_.length ->
    (∀ (i:Nat) (p:Nat×Value) (q:Nat×AV),parts[i]?=some p->as_[i]?=some q->p.1=q.1/\RV ψ K S w p.2 q.2)->krh place xs as_=some rs ->
    ∃ r,Instr.fill place cells parts=some r/\PW ψ K S w r rs/\∀ x∈rs,x.single=true
  | [],[],cells,xs,rs,hp,h1,_,_,a=>by simp only [krh,qc] at a;subst a;exact ⟨cells,rfl,hp,h1⟩
  | (i,v)::parts,(j,x)::as_,cells,xs,rs,hp,h1,hl,hr,a=>by
    obtain ⟨e,hx⟩:=hr 0 _ _ rfl rfl;simp only at e;subst e;simp only [krh] at a;cases b:place i with
    | none=>rw [b] at a;cases a
    | some os=>
      obtain ⟨off,size⟩:=os;rw [b] at a;simp only at a;cases hc:(Nat.beq x.cells.length size && (Nat.ble (off+size) xs.length && x.cells.all AV.single)) with
      | false=>rw [hc] at a;cases a
      | true=>
        rw [hc] at a;simp only [qe] at a;simp only [qr] at hc;obtain ⟨c,hc2,g⟩:=hc;have c:=qk c;have hc2:=qp hc2;have hs:∀ y∈x.cells,y.single=true:=qu.1 g;obtain ⟨e1,e2,e3⟩:=RV.cells hx hs;simp only at e1 e2 e3;obtain ⟨g1,g2⟩:=Great.foldl_set off v.cells.toList 0 cells;have f:off+x.cells.length<=xs.length:=(by omega);have l:PW ψ K S w ((v.cells.toList.zipIdx 0).foldl (fun cs (x:Value×Nat)=>cs.setIfInBounds (off+x.2) x.1) cells) (kcg xs off x.cells):=by
          refine ⟨by rw [g1,kjj _ _ _ f];exact hp.1,fun k u y d hy=>?_⟩;rw [g2 k] at d;rw [klr _ _ _ f] at hy;simp only [Nat.add_zero,qaf,e1] at d;by_cases hk:off<=k/\k<off+x.cells.length
          · rw [qo ⟨hk.1,hk.2,by rw [hp.1];omega⟩] at d
            rw [qo hk] at hy;exact e2 _ u y (by simpa using d) hy
          · rw [qi (fun h=>hk ⟨h.1,h.2.1⟩)] at d
            rw [qi hk] at hy;exact hp.2 k u y d hy
        have m:∀ y∈kcg xs off x.cells,y.single=true:=by
          intro y hy;unfold kcg at hy;simp only [qat] at hy;rcases hy with hy | hy | hy
          · exact h1 y (qbl hy)
          · exact hs y hy
          · exact h1 y (qbs hy)
        obtain ⟨r,o,s,t⟩:=k0v place parts as_ _ _ rs l m (by simpa using hl) (fun n p q hp z=>hr (n+1) p q (by simpa using hp) (by simpa using z)) a;refine ⟨r,?_,s,t⟩;unfold Instr.fill;rw [b];simp only;rw [qi (by simp [e1,c,hp.1];omega)];rw [<- o];congr 1;rw [<- Array.foldl_toList,Array.toList_zipIdx]
theorem k6h {α β:Type} {f:α->Sem β} {g:α->β} (w:World):∀ (l:List α),(∀ x∈l,(f x).run P w = .ok (g x) w)->(l.mapM f).run P w = .ok (l.map g) w
  | [],_=>by simp
  | x::l,h=>by rw [List.mapM_cons];have h1:=h x (qv ..);have a:=k6h w l fun y hy=>h y (qh _ hy);simp [h1,a]
theorem k0q (w:World) (ψ:Env) {z:Value} {xs:List AV} (c:z.cells.toList=d.zero) (h:kq1 d=some xs):PW ψ K S w z.cells xs/\∀ x∈xs,x.single=true:=by
  unfold kq1 at h;cases e:d.zero.all (·.oneCell') with
  | false=>rw [e] at h;cases h
  | true=>
    rw [e] at h;simp only [qe,qc] at h;subst h;have a:=qu.1 e;refine ⟨⟨by rw [qt,<- c];simp,fun i v x hv hx=>?_⟩,fun x hx=>?_⟩
    · simp only [qn,qq] at hx
      obtain ⟨u,b,rfl⟩:=hx;rw [<- c,qal,hv] at b;injection b with b;subst b;exact .fz (.atom (a v (by rw [<- c];exact Array.mem_toList_iff.2 (Array.mem_of_getElem? hv))))
    · simp only [qai] at hx
      obtain ⟨v,hv,rfl⟩:=hx;exact a v hv
def kp1 (T:List (TypeId×TD)):List (TypeId×Nat)->Option (List (Nat×Nat))
  | []=>some []
  | (ft,off)::l=>match kad T ft,kp1 T l with
    | some d,some r=>some ((off,d.size)::r)
    | _,_=>none
theorem kzs (b:TOk P T):∀ {fs:List (TypeId×Nat)} {ps:List (Nat×Nat)},kp1 T fs=some ps->ps=fs.map (fun f=>(f.2,P.cellsOf f.1))/\∀ f∈fs,∀ w,(sizeOf f.1).run P w = .ok (P.cellsOf f.1) w
  | [],ps,h=>by simp [kp1] at h;subst h;exact ⟨rfl,fun f a=>by cases a⟩
  | (ft,off)::l,ps,h=>by
    simp only [kp1] at h;split at h
    · rename_i d r hd hr
      injection h with h;subst h;obtain ⟨h1,c⟩:=kzs b hr;have hs:P.cellsOf ft=d.size:=(by unfold Program.cellsOf;rw [(b.get hd).info];rfl);refine ⟨by simp [h1,hs],fun f a=>?_⟩;rcases qae.1 a with rfl | a
      · intro w;rw [(b.get hd).size];simp [hs]
      · exact c f a
    · cases h
def kct (st:St) (ps:Array (Nat×Operand)):List (Nat×AV):=ps.toList.map fun p=>(p.1,st.eval p.2)
theorem kng {ids:List Nat} (h:∀ t,RV ψ (·∈ids) S w (a.tmps.getD t undef) (st.get t)) (ps:Array (Nat×Operand)):
    (ps.map fun (i,x)=>(i,a.eval x)).toList.length=(kct st ps).length/\∀ (i:Nat) (p:Nat×Value) (q:Nat×AV),(ps.map fun (i,x)=>(i,a.eval x)).toList[i]?=some p->(kct st ps)[i]?=some q->p.1=q.1/\RV ψ (·∈ids) S w p.2 q.2:=by
  refine ⟨by simp [kct],fun i p q hp b=>?_⟩;unfold kct at b;simp only [Array.toList_map,qn,qq] at hp b;obtain ⟨x,hx,rfl⟩:=hp;obtain ⟨y,hy,rfl⟩:=b;rw [hx] at hy;injection hy with hy;subst hy;exact ⟨rfl,Sim.eval_tmps h x.2⟩
def k5p (T:List (TypeId×TD)) (st:St) (t:TypeId) (parts:Array (Nat×Operand)):Option AV:=match kad T t with
  | some d=>match d.kind,kq1 d with
    | .st fs,some zs=>match kp1 T fs with
      | some ps=>(krh (fun i:Nat=>ps[i]?) zs (kct st parts)).map aggA
      | none=>none
    | .arr _ e,some zs=>match kad T e with
      | some de=>(krh (fun i:Nat=>some (i*de.size,de.size)) zs (kct st parts)).map aggA
      | none=>none
    | _,_=>none
  | none=>none
theorem k7h {parts:Array (Nat×Operand)} {c:AV} (u:TOk P T) (F:o.op = .build t parts) (hc:k5p T st t parts=some c):NStep P o st c:=by
  intro ψ S a w ht H;unfold k5p at hc;split at hc
  · rename_i d hd
    have hd:=u.get hd;split at hc
    · rename_i fs zs hk y
      split at hc
      · rename_i ps A
        simp only [qq] at hc;obtain ⟨rs,k,rfl⟩:=hc;obtain ⟨gs,B,s⟩:=hd.strct hk;obtain ⟨C,D⟩:=kzs u A;obtain ⟨z,l,m⟩:=hd.zero (w:=w);obtain ⟨e1,e2⟩:=kng ht parts;obtain ⟨z1,z2⟩:=k0q (S:=S) (K:=(·∈st.ids)) w ψ m y;obtain ⟨r,b,h,p⟩:=k0v (fun i:Nat=>ps[i]?) _ _ _ _ rs z1 z2 e1 e2 k;refine kae w (.agg r) ?_ ⟨kaf _,(RV.aggA h.1 p h.2).here⟩;have hm:(Array.mapM (fun f:Field=>Prod.mk f.offset <$> sizeOf f.type) gs).run P w = .ok ps.toArray w:=(by rw [Array.mapM_eq_mapM_toList];have:=k6h (P:=P) (f:=fun f:Field=>Prod.mk f.offset <$> sizeOf f.type) (g:=fun f=>(f.offset,P.cellsOf f.type)) w gs.toList fun f G=>(by have:=D (f.type,f.offset) (by rw [<- s];exact qai.2 ⟨f,G,rfl⟩) w;simp [this]);simp only [Sem.run_map,this];rw [C,<- s];simp);have E:(fun i:Nat=>ps.toArray[i]?)=fun i:Nat=>ps[i]?:=(by funext i;simp);have j:(parts.map fun (i,x)=>(i,a.eval x)).toList=List.map (fun x=>(x.fst,a.eval x.snd)) parts.toList:=(by simp);rw [j] at b;simp [execOp,F,Instr.build,l,B,hm,E,b]
      · cases hc
    · rename_i n e zs hk y
      split at hc
      · rename_i de q
        have q:=u.get q;simp only [qq] at hc;obtain ⟨rs,k,rfl⟩:=hc;have B:=run_underlying (hd.arr hk) w;obtain ⟨z,l,m⟩:=hd.zero (w:=w);obtain ⟨e1,e2⟩:=kng ht parts;obtain ⟨z1,z2⟩:=k0q (S:=S) (K:=(·∈st.ids)) w ψ m y;obtain ⟨r,b,h,p⟩:=k0v (fun i:Nat=>some (i*de.size,de.size)) _ _ _ _ rs z1 z2 e1 e2 k;refine kae w (.agg r) ?_ ⟨kaf _,(RV.aggA h.1 p h.2).here⟩;have j:(parts.map fun (i,x)=>(i,a.eval x)).toList=List.map (fun x=>(x.fst,a.eval x.snd)) parts.toList:=(by simp);rw [j] at b;simp [execOp,F,Instr.build,l,B,q.size,b]
      · cases hc
    · cases hc
  · cases hc
def arrX (T:List (TypeId×TD)) (st:St) (t:TypeId) (x y:Operand):Option AV:=match kad T t with
  | some d=>match d.kind with
    | .arr n e=>match kad T e,st.eval y with
      | some de, .fz (.atom (.int _ i))=>bif decide (0<=i) && decide (i<n) then koq st (i.toNat*de.size) (st.eval x) else none
      | _,_=>none
    | _=>none
  | none=>none
theorem n_arr {x y:Operand} {c:AV} (l:TOk P T) (m:o.op = .indexAddr t x y) (hc:arrX T st t x y=some c):NStep P o st c:=by
  intro ψ S a w ht p;unfold arrX at hc;split at hc
  · rename_i d hd
    split at hc
    · rename_i n e hk
      split at hc
      · rename_i de k i f hy
        cases g:decide (0<=i) && decide (i<(n:Int)) with
        | false=>rw [g] at hc;cases hc
        | true=>
          rw [g] at hc;simp only [qe] at hc;simp only [qr,qbn] at g;have hd:=l.get hd;have f:=l.get f;obtain ⟨b,off',hv,hr⟩:=kra (Sim.eval_tmps ht x) p hc;have h:=Sim.eval_tmps ht y;rw [hy] at h;have j:=h.atom;refine kae w _ ?_ ⟨kaf _,hr.here⟩;simp [execOp,m,hv,j,Instr.indexAt,asIntOf,run_underlying (hd.arr hk),Instr.sureAddr,g.1,g.2,f.size,kbg]
      · cases hc
    · cases hc
  · cases hc
end Go.Proofs.YtdnfbjahbkpibaaGreatDoor
set_option linter.all false
namespace Go.Proofs.YtdnfbjahbkpibaaGreatDoor
open Go Go.RowKit
variable [Dr]
def knf (size:Nat):Nat->List (Nat×AV)->Option (List FV)
  | _,[]=>some []
  | i,(j, .fz x)::l=>bif Nat.beq j i && (Nat.beq x.cells.length size && x.cells.all FV.single) then (knf size (i+1) l).map (x::·) else none
  | _,_::_=>none
def klu:AV->Option (List FV)
  | .fz (.lst _ _ xs)=>some xs
  | .lim _ _ xs=>some xs
  | _=>none
def lenOf:AV->Option Nat
  | .fz (.lst _ n _)=>some n
  | .lim _ n _=>some n
  | .fz (.atom (.slice none 0 0))=>some 0
  | _=>none
def nilV:Value := .slice none 0 0
variable {P:Program} {w w':World} {S S':Nat->Prop} {ψ:Env} {K:Nat->Prop} {T:List (TypeId×TD)} {o:Oper} {a:Act} {st:St} {t:TypeId} {d:TD}
theorem RF.lst_inv {v:Value} {size n:Nat} {xs:List FV} (h:RF S w v (.lst size n xs)):∃ (A:Option Addr) (cap:Nat) (css:Nat->List Value),v = .slice A n cap/\n=xs.length/\n<=cap/\cap<=9223372036854775807/\0<size /\
    (∀ (i:Nat) (x:FV),xs[i]?=some x->∃ b o,A=some ⟨b,o,none⟩/\S b/\At w b (o+i*size) (css i)) /\
    (∀ (i:Nat) (x:FV),xs[i]?=some x->(css i).length=size/\x.cells.length=size/\∀ y∈x.cells,y.single=true) /\
    (∀ (i:Nat) (x:FV) (j:Nat) (v:Value) (y:FV),xs[i]?=some x->(css i)[j]?=some v->x.cells[j]?=some y->RF S w v y):=by
  cases h with
  | lst css hn hc hm hs ha hl hr=>exact ⟨_,_,css,rfl,hn,hc,hm,hs,ha,hl,hr⟩
theorem kq9 {v:Value} {x:AV} {xs:List FV} (h:RV ψ K S w v x) (hx:klu x=some xs):∃ A cap size n,n=xs.length/\v = .slice A n cap/\RF S w v (.lst size n xs):=by
  cases x with
  | fz x=>
    cases x with
    | lst size n ys=>
      simp only [klu,qc] at hx;subst hx;have h:=h.inv;have a:=h;cases h with
      | lst css hn=>exact ⟨_,_,_,n,hn,rfl,a⟩
    | _=>cases hx
  | lim size n ys=>
    simp only [klu,qc] at hx;subst hx;cases h with
    | lim h=>
      have a:=h;cases h with
      | lst css hn=>exact ⟨_,_,_,n,hn,rfl,a⟩
  | _=>cases hx
theorem kael {v:Value} {x:AV} {n:Nat} (h:RV ψ K S w v x) (hx:lenOf x=some n):∃ A cap,v = .slice A n cap:=by
  unfold lenOf at hx;split at hx
  · injection hx with hx
    subst hx;have h:=h.inv;cases h with
    | lst css hn=>exact ⟨_,_,rfl⟩
  · injection hx with hx
    subst hx;cases h with
    | lim h=>exact ⟨_,_,rfl⟩
  · injection hx with hx
    subst hx;rw [h.atom];exact ⟨_,_,rfl⟩
  · cases hx
theorem k0i {x:Operand} {n:Nat} {e:TypeId} (b:o.op = .call { callee := .builtin .len,args:=#[x],argTypes:=#[t] }) (hd:TdOk P t d) (hk:d.kind = .slice e) (hx:lenOf (st.eval x)=some n):NStep P o st (.fz (.atom (.int .i64 n))):=by intro ψ S a w ht c;obtain ⟨A,cap,hv⟩:=kael (Sim.eval_tmps ht x) hx;refine kae w (.int .i64 n) ?_ ⟨kaf _, .fz (.atom rfl)⟩;simp [execOp,b,resolve,invoke,builtin,Builtin.len_,run_underlying (hd.slice hk),hv,goInt]
theorem k2e {x:Operand} {s:BA} (b:o.op = .call { callee := .builtin .len,args:=#[x],argTypes:=#[t] }) (hd:TdOk P t d) (hk:d.kind = .str) (hx:st.eval x = .fz (.atom (.string s))):NStep P o st (.fz (.atom (.int .i64 s.size))):=by intro ψ S a w ht c;have h1:=Sim.eval_tmps ht x;rw [hx] at h1;refine kae w (.int .i64 s.size) ?_ ⟨kaf _, .fz (.atom rfl)⟩;simp [execOp,b,resolve,invoke,builtin,Builtin.len_,run_underlying (hd.str hk),h1.atom,goInt]
theorem k7x {x y:Operand} {xs:List FV} {e:TypeId} {de:TD} {k:IntKind} {i:Int} {z:FV} {cs:List FV} (p:o.op = .indexAddr t x y) (hd:TdOk P t d) (hk:d.kind = .slice e) (f:TdOk P e de) (hx:klu (st.eval x)=some xs)
    (g:∀ z∈xs,z.cells.length=de.size) (hy:st.eval y = .fz (.atom (.int k i))) (h0:0<=i) (hi:xs[i.toNat]?=some z) (hc:z.cells=cs):NStep P o st (.fz (.fp cs)):=by
  subst hc;intro ψ S a w ht B;obtain ⟨A,cap,size,n,q,hv,r⟩:=kq9 (Sim.eval_tmps ht x) hx;have h1:=Sim.eval_tmps ht y;rw [hy] at h1;have s:i.toNat<xs.length:=(qf.1 hi).1;obtain ⟨A',cap',css,h,u,hc,hm,hs,ha,hl,hr⟩:=r.lst_inv;obtain ⟨b,off,rfl,hS,l⟩:=ha _ _ hi;obtain ⟨l1,l2,l3⟩:=hl _ _ hi;have m:size=de.size:=by rw [<- g z (qj hi),l2]
  subst m;refine kae w (.pointer (some ⟨b,off+i.toNat*de.size,none⟩)) ?_ ⟨kaf _,(RV.fz (.fp (css i.toNat) hS l (by rw [l1,l2]) (by omega) l3 fun j v y hv hy=>hr _ _ j v y hi hv hy)).here⟩;have c:i<(n:Int):=by omega
  simp [execOp,p,Instr.indexAt,h1.atom,asIntOf,run_underlying (hd.slice hk),h,h0,c,f.size,kbg]
theorem kacv {x y:Operand} {s:BA} {k:IntKind} {i:Int} {c:UInt8} (e:o.op = .index t x y) (hd:TdOk P t d) (hk:d.kind = .str) (hx:st.eval x = .fz (.atom (.string s))) (hy:st.eval y = .fz (.atom (.int k i))) (h0:0<=i) (hi:s[i.toNat]?=some c):
    NStep P o st (.fz (.atom (.int .u8 c.toNat))):=by
  intro ψ S a w ht f;have h1:=Sim.eval_tmps ht x;rw [hx] at h1;have b:=Sim.eval_tmps ht y;rw [hy] at b;refine kae w (.int .u8 c.toNat) ?_ ⟨kaf _, .fz (.atom rfl)⟩;simp [execOp,e,Instr.index,h1.atom,b.atom,asIntOf,run_underlying (hd.str hk),h0,hi]
theorem kafj {x y:Operand} {yt:TypeId} {s u:BA} (c:o.op = .binOp .add t x y yt) (hx:st.eval x = .fz (.atom (.string s))) (hy:st.eval y = .fz (.atom (.string u))) (hl:s.size+u.size<=9223372036854775807):
    NStep P o st (.fz (.atom (.string (s++u)))):=by
  intro ψ S a w ht e;have h1:=Sim.eval_tmps ht x;rw [hx] at h1;have b:=Sim.eval_tmps ht y;rw [hy] at b;refine kae w (.string (s++u)) ?_ ⟨kaf _, .fz (.atom rfl)⟩;have hm:IntKind.i64.max=9223372036854775807:=by decide
  have:¬ (((s.size+u.size:Nat):Int) > IntKind.i64.max):=by rw [hm];omega
  have d:(binOp .add t (.string s) (.string u)).run P w = .ok (.string (s++u)) w:=by show (Op.stringOp .add s u).run P w=_;unfold Op.stringOp;simp only [qi this];rfl
  simp [execOp,c,h1.atom,b.atom,d,kub (P:=P) (w:=w) (op := .add) (t:=t) (x:=x) (y:=y) (u := .string s) (v := .string u) rfl]
theorem kaj2 {sr:TypeId} {x:Operand} {k k':IntKind} {n:Int} (ds:TD) (b:o.op = .convert sr t x) (hs:∃ e,P.underlying sr=some e) (hd:P.underlying t=some (.int k)) (hx:st.eval x = .fz (.atom (.int k' n))):NStep P o st (.fz (.atom (.int k (k.wrap n)))):=by intro ψ S a w ht d;obtain ⟨e,c⟩:=hs;have h1:=Sim.eval_tmps ht x;rw [hx] at h1;refine kae w (.int k (k.wrap n)) ?_ ⟨kaf _, .fz (.atom rfl)⟩;cases e <;> simp [execOp,b,h1.atom,convert,run_underlying c,run_underlying hd,Conv.intToInt]
theorem kadm {f:FuncId} {cap:Array Operand} (c:o.op = .makeFunc (.func f) #[] cap):NStep P o st (.fn f (cap.toList.map st.eval)):=by
  intro ψ S a w ht d;refine kae w (.func (.func f) #[] (cap.map a.eval)) ?_ ⟨kaf _,(RV.fn (by simp) fun i v x hv hx=>?_).here⟩
  · simp [execOp,c,Instr.makeFunc]
  · simp only [Array.getElem?_map,qq,qn,qal] at hv hx
    obtain ⟨y,hy,rfl⟩:=hv;obtain ⟨z,b,rfl⟩:=hx;rw [hy] at b;injection b with b;subst b;exact Sim.eval_tmps ht y
theorem kaga {f:FuncId} {fst:Array Operand} (c:o.op = .makeFunc (.func f) fst #[]):NStep P o st (.mth f (fst.toList.map st.eval)):=by
  intro ψ S a w ht d;refine kae w (.func (.func f) (fst.map a.eval) #[]) ?_ ⟨kaf _,(RV.mth (by simp) fun i v x hv hx=>?_).here⟩
  · simp [execOp,c,Instr.makeFunc]
  · simp only [Array.getElem?_map,qq,qn,qal] at hv hx
    obtain ⟨y,hy,rfl⟩:=hv;obtain ⟨z,b,rfl⟩:=hx;rw [hy] at b;injection b with b;subst b;exact Sim.eval_tmps ht y
theorem ku7 {size:Nat}:∀ {i:Nat} {l:List (Nat×AV)} {xs:List FV},knf size i l=some xs->l=(xs.zipIdx i).map (fun p=>(p.2,AV.fz p.1))/\∀ x∈xs,x.cells.length=size/\∀ y∈x.cells,y.single=true
  | i,[],xs,h=>by simp only [knf,qc] at h;subst h;exact ⟨rfl,fun x hx=>by cases hx⟩
  | i,(j,x)::l,xs,h=>by
    cases x with
    | fz x=>
      simp only [knf] at h;cases a:(Nat.beq j i && (Nat.beq x.cells.length size && x.cells.all FV.single)) with
      | false=>rw [a] at h;cases h
      | true=>
        rw [a] at h;simp only [qe,qq] at h;obtain ⟨ys,b,rfl⟩:=h;simp only [qr] at a;obtain ⟨c,d,e⟩:=a;obtain rfl:=qk c;obtain ⟨h1,f⟩:=ku7 b;refine ⟨by rw [h1];rfl,fun y hy=>?_⟩;rcases qae.1 hy with rfl | hy
        · exact ⟨qk d,qu.1 e⟩
        · exact f y hy
    | _=>cases h
theorem kagd {n:Nat} {parts:Array (Nat×Operand)} {e:TypeId} {de:TD} {xs:List FV} (M:o.op = .buildSlice t n parts) (hd:TdOk P t d) (hk:d.kind = .slice e) (A:TdOk P e de) (f:0<de.size) (hn:xs.length=n) (R:n*de.size<=16777216)
    (hp:knf de.size 0 (kct st parts)=some xs):NStep P o st (.lim de.size n xs):=by
  subst hn;intro ψ S a w ht T;obtain ⟨e1,e2⟩:=kng ht parts;obtain ⟨p1,p2⟩:=ku7 hp
  -- the parts' values
  obtain ⟨vs,r⟩:∃ vs:List Value,vs=parts.toList.map (fun p=>a.eval p.2):=⟨_,rfl⟩;have c:parts.toList.length=xs.length:=by have:(kct st parts).length=xs.length:=(by rw [p1];simp);simpa [kct] using this
  have B:vs.length=xs.length:=by rw [r];simp at c ⊢; exact c
  have g:∀ (i:Nat) (x:FV),xs[i]?=some x->∃ v p,vs[i]?=some v/\parts.toList[i]?=some p/\p.1=i/\RF S w v x:=fun i x hx=>by have hi:i<parts.toList.length:=(by rw [c];exact (qf.1 hx).1);have N:(kct st parts)[i]?=some (i, .fz x):=(by rw [p1];simp [hx]);have s:parts.toList[i]?=some parts.toList[i]:=qb hi;have D:(parts.map fun (i,x)=>(i,a.eval x)).toList[i]?=some (parts.toList[i].1,a.eval parts.toList[i].2):=(by simp [s]);obtain ⟨r1,r2⟩:=e2 i _ _ D N;exact ⟨a.eval parts.toList[i].2,parts.toList[i],by rw [r,qn,s];rfl,s,r1,r2.inv⟩
  have E:(parts.map fun (i,x)=>(i,a.eval x)).toList=(vs.zipIdx 0).map (fun x=>(x.2,x.1)):=by
    apply qbw;intro i;by_cases hi:i<xs.length
    · obtain ⟨v,p,h1,K,O,_⟩:=g i xs[i] (qb hi)
      have:v=a.eval p.2:=(by rw [r,qn,K] at h1;simpa using h1.symm);simp only [Array.toList_map,qn,List.getElem?_zipIdx,h1,K,qa3,qb4];rw [this,O]
    · rw [qa4 (by simp at c ⊢; omega),qa4 (by simp [B];omega)]
  have b:∀ v∈vs,v.cells.size=de.size:=fun v hv=>by obtain ⟨i,hi,rfl⟩:=qaj.1 hv;obtain ⟨v,p,h1,_,_,F⟩:=g i xs[i] (qb (by omega));rw [qb hi] at h1;injection h1 with h1;rw [h1,(F.cells (p2 _ (q9 _)).2).1,(p2 _ (q9 _)).1]
  obtain ⟨z,G,Q⟩:=A.zero (P:=P) (w:=w);obtain ⟨cells,hcl⟩:∃ cells:Array Value,cells=(vs.flatMap fun v=>v.cells.toList).toArray:=⟨_,rfl⟩;have C:(Instr.buildSlice t xs.length (parts.map fun (i,x)=>(i,a.eval x))).run P w = .ok (.slice (some ⟨w.heap.size,0,none⟩) xs.length xs.length) (w.alloc (.cells cells e)):=by
    have H:¬ xs.length*de.size > 2 ^ 24:=(by omega);have k:∀ c0:Array Value,xs.length*de.size=c0.size->Instr.fill (fun i=>some (i*de.size,de.size)) c0 (parts.map fun (i,x)=>(i,a.eval x)).toList=some cells:=fun c0 I=>(by rw [E,Great.fill_whole f vs c0 b (by rw [B];exact I),hcl]);unfold Instr.buildSlice;rw [Sem.run_bind,run_underlying (hd.slice hk),Result.andThen_ok];simp only [Sem.run_bind,A.size,Result.andThen_ok,qi H];by_cases h0:xs.length*de.size=0
    · simp only [qo h0,Sem.run_bind,Sem.run_pure,Result.andThen_ok]
      rw [k]
      · rfl
      · simp
    · simp only [qi h0,Sem.run_bind,G,Result.andThen_ok,Sem.run_pure]
      rw [k]
      · rfl
      · simp
  refine kae (w.alloc (.cells cells e)) _ ?_ ⟨kbk _ _, .lim (.lst (fun i=>(vs.getD i undef).cells.toList) rfl (qx _) ?_ f (fun i x hx=>⟨w.heap.size,0,rfl, .inr (qx _),fun j u J=>?_⟩) (fun i x hx=>?_) fun i x j v y hx hv hy=>?_)⟩
  · have l:=C
    simp only [execOp,M,Sem.run_bind];rw [show (parts.map fun (i,x)=>(i,a.eval x))=parts.map (fun x=>(x.1,a.eval x.2)) from rfl] at l;simp [l]
  · have:xs.length*1<=xs.length*de.size:=Nat.mul_le_mul_left _ f
    omega
  · have hi:=(qf.1 hx).1
    have m:vs.getD i undef=vs[i]:=(by simp [List.getD,qb (show i<vs.length by omega)]);rw [m] at J;have L:j<de.size:=(by have:=(qf.1 J).1;rw [qaf,b _ (q9 _)] at this;exact this);have q:=Great.flat_get f vs b (i*de.size+j);rw [show (i*de.size+j) / de.size=i by rw [Nat.mul_comm,Nat.mul_add_div f,Nat.div_eq_of_lt L];omega,show (i*de.size+j) % de.size=j by rw [Nat.mul_comm,Nat.mul_add_mod,Nat.mod_eq_of_lt L]] at q;rw [qb (show i<vs.length by omega)] at q;simp only [qa] at q;have hh:(w.alloc (.cells cells e)).heap[w.heap.size]?=some (.cells cells e (0,0)):=heap_alloc_new w _;simp only [World.cell?,hh,qb4];simp only [Option.isSome_none,qb0,if_false];rw [hcl];simp only [qb6];rw [q];simpa using J
  · have hi:=(qf.1 hx).1
    have m:vs.getD i undef=vs[i]:=(by simp [List.getD,qb (show i<vs.length by omega)]);have:=p2 x (qj hx);rw [m];exact ⟨by rw [qaf,b _ (q9 _)],this.1,this.2⟩
  · obtain ⟨u,p,h1,_,_,F⟩:=g i x hx
    have m:vs.getD i undef=u:=(by simp [List.getD,h1]);simp only [m] at hv;have:=(F.cells (p2 x (qj hx)).2).2.1 j v y (by simpa using hv) hy;exact (this.keep (Same.of_grow (kbk _ _))).mono fun _ h => .inl h
end Go.Proofs.YtdnfbjahbkpibaaGreatDoor
set_option linter.all false
namespace Go.Proofs.YtdnfbjahbkpibaaGreatDoor
open Go Go.RowKit
variable [Dr]
def Env.set (ψ:Env) (id n:Nat) (v:Value):Env:=⟨fun i=>if i=id then n else ψ.len i,fun i=>if i=id then v else ψ.val i⟩
section
variable {P:Program} {F S0:Nat->Prop} {N0:Nat} {w w':World} {S S':Nat->Prop} {ψ:Env} {K:Nat->Prop} {T:List (TypeId×TD)} {o:Oper} {a:Act} {st:St} {t:TypeId} {d:TD} {heap:List (Nat×AObj)} {ids:List Nat} {id:Nat}
theorem kbh (n:Nat) (v:Value):(ψ.set id n v).len id=n:=by simp [Env.set]
theorem kaj (n:Nat) (v:Value):(ψ.set id n v).val id=v:=by simp [Env.set]
theorem kb7 (ψ:Env) {i:Nat} (h:i≠id) (n:Nat) (v:Value):(ψ.set id n v).len i=ψ.len i/\(ψ.set id n v).val i=ψ.val i:=by simp [Env.set,h]
theorem ka4 (h:id∉ids) (n:Nat) (v:Value):Ext (·∈ids) ψ (ψ.set id n v):=fun i hi=>by have a:i≠id:=fun e=>h (e ▸ hi);obtain ⟨h1,b⟩:=kb7 ψ a n v;exact ⟨by omega,fun _=>b⟩
theorem kn4 {n:Nat} {v:Value} (h:ψ.len id<n\/(ψ.len id=n/\v=ψ.val id)):Ext (·∈ids) ψ (ψ.set id n v):=fun i hi=>by
  by_cases a:i=id
  · subst a
    rw [kbh,kaj];rcases h with h | ⟨h1,b⟩
    · exact ⟨by omega,fun e=>by omega⟩
    · exact ⟨by omega,fun _=>b⟩
  · obtain ⟨h1,b⟩:=kb7 ψ a n v
    exact ⟨by omega,fun _=>b⟩
theorem Core.addB {n:Nat} {v:Value} {ob:AObj} (h:Core F S0 N0 heap ids ψ S w) (o:Grow w w') (p:id∉ids) (l:∀ b,Blk v b->w.heap.size<=b)
    (x:ObR (ψ.set id n v) (·∈id::ids) S w' id ob):Core F S0 N0 ((id,ob)::heap) (id::ids) (ψ.set id n v) S w':=by
  have hk:Same S w w':=Same.of_grow o;have c:∀ i,i∈ids->i≠id:=fun i hi e=>p (e ▸ hi);refine ⟨fun i o' g=>?_,fun i i' o' o'' b g d q j f=>?_,fun b l=>qbh (h.lt b l) o.size,h.s0,qay h.n0 o.size,fun b l=>qbh (h.fr b l) o.size⟩
  · rw [kac] at g
    by_cases r:id=i
    · subst r
      rw [qo rfl] at g;injection g with g;subst g;refine ⟨qv ..,x,fun b a=>?_⟩;rw [kaj] at a;have:=l b a;exact ⟨fun hs=>by have:=h.lt b hs;omega,fun y=>by have:=h.fr b y;omega, .inr (by have:=h.n0;omega)⟩
    · rw [qi r] at g
      obtain ⟨h1,m,t⟩:=h.obj i o' g;have s:=kb7 ψ (c i h1) n v;refine ⟨qh _ h1,m.keep (ka4 p n v) (fun _ h=>qh _ h) (fun _ h=>h) hk s fun b a=>o.block b (m.lt a),fun b a=>t b (by rw [s.2] at a;exact a)⟩
  · rw [kac] at g d
    by_cases r:id=i
    · subst r
      by_cases k:id=i'
      · exact q k
      · rw [qi k] at d
        obtain ⟨h1,m,t⟩:=h.obj i' o'' d;rw [kaj] at j;rw [(kb7 ψ (c i' h1) n v).2] at f;have:=l b j;have:=m.lt f;omega
    · rw [qi r] at g
      obtain ⟨h1,m,t⟩:=h.obj i o' g;rw [(kb7 ψ (c i h1) n v).2] at j;by_cases k:id=i'
      · subst k
        rw [kaj] at f;have:=l b f;have:=m.lt j;omega
      · rw [qi k] at d
        obtain ⟨u,z,A⟩:=h.obj i' o'' d;rw [(kb7 ψ (c i' u) n v).2] at f;exact h.inj i i' o' o'' b g d q j f
theorem Core.add {n:Nat} {v:Value} {ob:AObj} (h:Core F S0 N0 heap ids ψ S w) (f:Grow w w') (c:id∉ids) (g:∀ b,kak v=some b->w.heap.size<=b)
    (i:ObR (ψ.set id n v) (·∈id::ids) S w' id ob) (d:kff v=[]:=by rfl):Core F S0 N0 ((id,ob)::heap) (id::ids) (ψ.set id n v) S w':=
  h.addB f c (fun b a=>g b (by
    rcases a with a | ⟨u,e,_⟩
    · exact a
    · rw [d] at e;cases e)) i
theorem Core.upd {n:Nat} {v:Value} {ob ob':AObj} (h:Core F S0 N0 heap ids ψ S w) (y:kaa heap id=some ob) (r:w.heap.size<=w'.heap.size) (l:∀ k,k<w.heap.size->¬ Blk (ψ.val id) k->w'.heap[k]?=w.heap[k]?)
    (hx:ψ.len id<n\/(ψ.len id=n/\v=ψ.val id)) (o:∀ b,Blk v b->Blk (ψ.val id) b\/w.heap.size<=b) (C:ObR (ψ.set id n v) (·∈ids) S w' id ob'):
    Core F S0 N0 ((id,ob')::heap) ids (ψ.set id n v) S w'/\Same S w w'/\∀ b,F b->w'.heap[b]?=w.heap[b]?:=by
  obtain ⟨A,D,s⟩:=h.obj id ob y;have hk:Same S w w':=fun b o hl=>l b hl fun e=>(s b e).1 o;refine ⟨⟨fun i o' a=>?_,fun i i' o' o'' b m d p j f=>?_,fun b o=>qbh (h.lt b o) r,h.s0,qay h.n0 r,fun b o=>qbh (h.fr b o) r⟩,hk,fun b z=>l b (h.fr b z) fun e=>(s b e).2.1 z⟩
  · rw [kac] at a
    by_cases q:id=i
    · subst q
      rw [qo rfl] at a;injection a with a;subst a;refine ⟨A,C,fun b c=>?_⟩;rw [kaj] at c;rcases o b c with h1 | h1
      · exact s b h1
      · exact ⟨fun hs=>by have:=h.lt b hs;omega,fun z=>by have:=h.fr b z;omega, .inr (by have:=h.n0;omega)⟩
    · rw [qi q] at a
      obtain ⟨h1,t,B⟩:=h.obj i o' a;have u:=kb7 ψ (Ne.symm q) n v;refine ⟨h1,t.keep (kn4 hx) (fun _ h=>h) (fun _ h=>h) hk u fun b c=>l b (t.lt c) fun e=>h.inj i id o' ob b a y (Ne.symm q) c e,fun b c=>B b (by rw [u.2] at c;exact c)⟩
  · rw [kac] at m d
    by_cases q:id=i
    · subst q
      by_cases g:id=i'
      · exact p g
      · rw [qi g] at d
        obtain ⟨h1,t,B⟩:=h.obj i' o'' d;rw [kaj] at j;rw [(kb7 ψ (Ne.symm g) n v).2] at f;rcases o b j with x | x
        · exact h.inj id i' ob o'' b y d p x f
        · have:=t.lt f;omega
    · rw [qi q] at m
      obtain ⟨h1,t,B⟩:=h.obj i o' m;rw [(kb7 ψ (Ne.symm q) n v).2] at j;by_cases g:id=i'
      · subst g
        rw [kaj] at f;rcases o b f with x | x
        · exact h.inj i id o' ob b m y p j x
        · have:=t.lt j;omega
      · rw [qi g] at d
        obtain ⟨E,G,H⟩:=h.obj i' o'' d;rw [(kb7 ψ (Ne.symm g) n v).2] at f;exact h.inj i i' o' o'' b m d p j f
theorem kio (ob:Obj) (a:∀ b,F b->b<w.heap.size):Fr F w (w.alloc ob):=Fr.of_grow a (kbk w ob)
theorem kage {e:TypeId} {x:Operand} {cells:List AV} (g:o.op = .box e x) (hx:(st.eval x).cells=cells) (h1:cells.all AV.single=true) (c:st.ids.contains id=false):
    StepA P o st (.ref id 0 0) ((id, .box e cells)::st.heap) (id::st.ids):=by
  subst hx;have hs:∀ y∈(st.eval x).cells,y.single=true:=qu.1 h1;have c:id∉st.ids:=by simpa using c
  intro F S0 N0 ψ S a w f;obtain ⟨e1,e2,e3⟩:=RV.cells (f.eval x) hs;have d:=f.core;refine kae (w.alloc (.cells (a.eval x).cells e)) (.pointer (some ⟨w.heap.size,0,none⟩)) ?_ ⟨ψ.set id 0 (.pointer (some ⟨w.heap.size,0,none⟩)),S,?_,?_,kio _ d.fr,ka4 c _ _,fun _ h=>qh _ h,fun _ h=>h,Same.of_grow (kbk _ _)⟩
  · simp [execOp,g,Instr.box,newVar,newRow]
  · refine d.add (kbk _ _) c (fun b j=>by simp [kak] at j;omega) ⟨kbh _ _,w.heap.size,_,kaj _ _,heap_alloc_new w _,e1,hs,fun i v y hv hy=>?_⟩
    exact (e2 i v y hv hy).keep (ka4 c _ _) (fun _ h=>qh _ h) (fun _ h=>h) (Same.of_grow (kbk _ _))
  · exact .ref (qv ..) (qak _) rfl fun _=>⟨w.heap.size,by rw [kaj];rfl,rfl⟩
theorem k0s {e:TypeId} {cells:List AV} (l:o.op = .alloc e) (hd:TdOk P e d) (m:kq1 d=some cells) (c:st.ids.contains id=false):
    StepA P o st (.ref id 0 0) ((id, .box e cells)::st.heap) (id::st.ids):=by
  have c:id∉st.ids:=by simpa using c
  intro F S0 N0 ψ S a w g;obtain ⟨z,j,k⟩:=hd.zero (P:=P) (w:=w);obtain ⟨z1,z2⟩:=k0q (S:=S) (K:=(·∈st.ids)) w ψ k m;have f:=g.core;refine kae (w.alloc (.cells z.cells e)) (.pointer (some ⟨w.heap.size,0,none⟩)) ?_ ⟨ψ.set id 0 (.pointer (some ⟨w.heap.size,0,none⟩)),S,?_,?_,kio _ f.fr,ka4 c _ _,fun _ h=>qh _ h,fun _ h=>h,Same.of_grow (kbk _ _)⟩
  · simp [execOp,l,Instr.alloc,j,newVar,newRow]
  · refine f.add (kbk _ _) c (fun b n=>by simp [kak] at n;omega) ⟨kbh _ _,w.heap.size,_,kaj _ _,heap_alloc_new w _,z1.1,z2,fun i v y hv hy=>?_⟩
    exact (z1.2 i v y hv hy).keep (ka4 c _ _) (fun _ h=>qh _ h) (fun _ h=>h) (Same.of_grow (kbk _ _))
  · exact .ref (qv ..) (qak _) rfl fun _=>⟨w.heap.size,by rw [kaj];rfl,rfl⟩
theorem khc (g:Nat) (cs:Array Value) (k:Nat) (h:k≠g):(w.setRow g cs).heap[k]?=w.heap[k]?:=by simp only [World.setRow,qb5];rw [qi (fun e=>h e.symm)]
theorem kfb (g:Nat) {cs cs':Array Value} {e:TypeId} {fr:Nat×Nat} (h:w.heap[g]?=some (.cells cs e fr)):(w.setRow g cs').heap[g]?=some (.cells cs' e fr):=by simp [World.setRow,qb5,h]
theorem k7i {e:TypeId} {x y:Operand} {off:Nat} {cells ys:List AV} (I:o.op = .store t x y) (hd:TdOk P t d) (hx:st.eval x = .ref id 0 off) (B:kaa st.heap id=some (.box e cells)) (hy:(st.eval y).cells=ys) (hl:ys.length=d.size) (h1:ys.all AV.single=true)
    (C:off+ys.length<=cells.length):StepA P o st .any ((id, .box e (kcg cells off ys))::st.heap) st.ids:=by
  subst hy;have hs:∀ z∈(st.eval y).cells,z.single=true:=qu.1 h1;intro F S0 N0 ψ S a w r;obtain ⟨e1,e2,e3⟩:=RV.cells (r.eval y) hs;have f:=r.core;obtain ⟨J,⟨h0,b,cs,g,E,s,j,hr⟩,G⟩:=f.obj id _ B;have hv:=r.eval x;rw [hx] at hv;have H:a.eval x = .pointer (some ⟨b,off,none⟩):=by
    generalize a.eval x=u at hv;cases hv with
    | ref hK hn h1 hv=>
      obtain ⟨b',A,rfl⟩:=hv h0.symm;rw [g] at A;simp only [kak,qc] at A;rw [A]
  have hst:=run_storeCells_at (P:=P) b off e (a.eval y).cells.toList 0 cs w E (by simp [e1,s];omega) e3;simp only [Nat.add_zero,qaf] at hst;obtain ⟨new,l⟩:∃ new:Array Value,new=(cs.toList.take off++(a.eval y).cells.toList++cs.toList.drop (off+(a.eval y).cells.size)).toArray:=⟨_,rfl⟩;rw [<- l] at hst;have D:new.toList=kcg cs.toList off (a.eval y).cells.toList:=by rw [l];simp [kcg,qbo]
  have K:(w.setRow b new).heap.size=w.heap.size:=by simp [World.setRow]
  have m:∀ k,k<w.heap.size->¬ Blk (ψ.val id) k->(w.setRow b new).heap[k]?=w.heap[k]?:=fun k _ hk=>khc b new k fun e=>hk (.of (by rw [g,e];rfl));have p:ψ.set id 0 (ψ.val id)=ψ:=by
    unfold Env.set;congr 1
    · funext i;split
      · rename_i h;rw [h,h0]
      · rfl
    · funext i;split
      · rename_i h;rw [h]
      · rfl
  have hk:Same S w (w.setRow b new):=fun k hk hl=>m k hl fun e=>(G k e).1 hk;obtain ⟨c1,c2,c3⟩:=f.upd (n:=0) (v:=ψ.val id) (w':=w.setRow b new) (ob' := .box e (kcg cells off (st.eval y).cells)) B (by omega) m (.inr ⟨h0,rfl⟩) (fun b E => .inl E) (by
    rw [p];have q:off+(a.eval y).cells.toList.length<=cs.toList.length:=(by simp [e1,s];omega);refine ⟨h0,b,new,g,kfb b E,?_,fun z c=>?_,fun i v z hv c=>?_⟩
    · rw [<- qaf,D,kjj _ _ _ q,kjj _ _ _ C];simpa using s
    · unfold kcg at c
      simp only [qat] at c;rcases c with c | c | c
      · exact j z (qbl c)
      · exact hs z c
      · exact j z (qbs c)
    · rw [<- qal,D,klr _ _ _ q] at hv
      rw [klr _ _ _ C] at c;simp only [qaf,e1] at hv;split at hv
      · rename_i hi
        rw [qo hi] at c;exact (e2 _ v z (by simpa using hv) c).keep Ext.refl (fun _ h=>h) (fun _ h=>h) hk
      · rename_i hi
        rw [qi hi] at c;exact (hr _ v z (by simpa using hv) c).keep Ext.refl (fun _ h=>h) (fun _ h=>h) hk)
  rw [p] at c1;refine kj1 (w.setRow b new) ?_ ⟨ψ,S,c1, .any,⟨rfl,rfl,rfl,by omega,c3,fun _=>qx _⟩,Ext.refl,fun _ h=>h,fun _ h=>h,c2⟩;simp only [execOp,I,Instr.storeAt,H,Instr.sureAddr,storeVar,hd.size,Sem.run_bind,Sem.run_pure,Result.andThen_ok];rw [qi (by rw [e1,hl];simp)];simp [hst]
end
end Go.Proofs.YtdnfbjahbkpibaaGreatDoor
set_option linter.all false
namespace Go.Proofs.YtdnfbjahbkpibaaGreatDoor
open Go Go.RowKit
variable [Dr]
section
variable {P:Program} {F S0:Nat->Prop} {N0:Nat} {w w':World} {S S':Nat->Prop} {ψ:Env} {K:Nat->Prop} {T:List (TypeId×TD)} {o:Oper} {a:Act} {st:St} {t:TypeId} {d:TD} {heap:List (Nat×AObj)} {ids:List Nat} {id:Nat}
def RowR (S:Nat->Prop) (w:World) (size:Nat) (xs:List FV) (cs:List Value):Prop:=
  ∀ (i:Nat) (x:FV) (j:Nat) (v:Value) (y:FV),xs[i]?=some x->cs[i*size+j]?=some v->x.cells[j]?=some y->RF S w v y
def ElR (size:Nat) (xs:List FV):Prop:=∀ x∈xs,x.cells.length=size/\∀ y∈x.cells,y.single=true
theorem RowR.append {size:Nat} {xs ys:List FV} {cs news:List Value} (hs:0<size) (h:RowR S w size xs cs) (k:RowR S w size ys news) (hl:cs.length=xs.length*size) (hx:ElR size xs):RowR S w size (xs++ys) (cs++news):=by
  intro i x j v y hi hv hy;by_cases a:i<xs.length
  · rw [qac a] at hi
    have b:j<size:=(by have:=(qf.1 hy).1;rw [(hx x (qj hi)).1] at this;exact this);have:(i+1)*size<=xs.length*size:=qau _ a;rw [qa7] at this;rw [qac (by omega)] at hv;exact h i x j v y hi hv hy
  · rw [qab (by omega)] at hi
    have:xs.length*size<=i*size:=qau _ (by omega);rw [qab (by omega),hl,show i*size+j - xs.length*size=(i - xs.length)*size+j by rw [Nat.sub_mul];omega] at hv;exact k _ x j v y hi hv hy
theorem RowR.keep {size:Nat} {xs:List FV} {cs:List Value} (h:RowR S w size xs cs) (hk:Same S w w'):RowR S w' size xs cs:=fun i x j v y h1 a b=>(h i x j v y h1 a b).keep hk
theorem k8a {e:TypeId} {de:TD} {t:TypeId} (ty:TypeId) (ht:P.underlying t=some (.slice e)) (G:TdOk P e de) (o:0<de.size) (H:de.zero.length=de.size) {v s:Value} {n m:Nat} {cs:List Value} {zs:List FV} (a:w.ownsRow 0 e de.size v n cs) (hs:RF S w s (.lst de.size m zs)) (I:n+zs.length<=9223372036854775807) (f:(n+zs.length)*de.bytes<=140737488355328):
    ∃ v' w' news,(Builtin.append_ #[t,t] ty #[v,s]).run P w = .ok v' w'/\w'.ownsRow 0 e de.size v' (n+zs.length) (cs++news)/\w.grownBy w' v.ownBlock/\(v'.ownBlock=v.ownBlock\/v'.ownBlock=some w.heap.size)/\news.length=zs.length*de.size /\
      RowR S w de.size zs news/\ElR de.size zs/\(zs=[]->v'=v):=by
  obtain ⟨A,cap,css,rfl,rfl,hc,hm,_,ha,hl,hr⟩:=hs.lst_inv;have k:ElR de.size zs:=fun x hx=>by obtain ⟨i,hi,rfl⟩:=qaj.1 hx;exact (hl i _ (qb hi)).2
  obtain ⟨⟨i,z,hi,p,q,r,J⟩,_⟩:=G;have B:z.cells.size=de.size:=by rw [<- qaf,J,H]
  by_cases C:zs=[]
  · subst C
    cases A with
    | none=>exact ⟨v,w,[],kwy 0 t ty e i de.size ht hi v n cs a cap,by simpa using a,World.grownBy.refl w _, .inl rfl,by simp,(fun i x j v y h=>by simp at h),k,fun _=>rfl⟩
    | some ad=>
      obtain ⟨v',w',d,F,K,U,L⟩:=run_append_own_at (P:=P) w 0 t ty e i z de.size de.bytes ht hi r p q B o v n cs a ad 0 cap [] (by simp) (fun j u h=>by simp at h) (by simp) (by unfold maxLen;simp at I;omega) (by simpa using f) (by omega);have M:v'=v:=by
        have hn:(Builtin.append_ #[t,t] ty #[v, .slice (some ad) 0 cap]).run P w = .ok v w:=by
          rcases a.2 with ⟨rfl,rfl⟩ | ⟨g,cap',cur,rfl,_,_,N,_⟩
          · simp [Builtin.append_,run_underlying ht,sizeOf,typeInfo,hi,Builtin.lenOf,Builtin.firstCells,loadCells,loadCellsFrom]
          · simp [Builtin.append_,run_underlying ht,sizeOf,typeInfo,hi,Builtin.lenOf,Builtin.firstCells,N,storeCells,loadCells,loadCellsFrom]
        rw [hn] at d;injection d with h1 F;exact h1.symm
      exact ⟨v',w',[],d,by simpa using F,K,L,by simp,(fun i x j v y h=>by simp at h),k,fun _=>M⟩
  · obtain ⟨y0,ys,rfl⟩:∃ y0 ys,zs=y0::ys:=by
      cases zs with
      | nil=>exact absurd rfl C
      | cons y ys=>exact ⟨y,ys,rfl⟩
    obtain ⟨b,off,rfl,_,_⟩:=ha 0 y0 rfl;obtain ⟨news,hn,l,T⟩:=k06 (b:=b) (w:=w) (size:=de.size) (Q:=fun c y=>(∀ j v z,c[j]?=some v->y.cells[j]?=some z->RF S w v z)/\(∀ u∈c,u.oneCell'=true)) (y0::ys) off fun i y hy=>(by obtain ⟨b',o',hA,_,l⟩:=ha i y hy;injection hA with hA;injection hA with e1 e2;subst e1 e2;obtain ⟨l1,l2,l3⟩:=hl i y hy;refine ⟨css i,l,l1,fun j v z hv o=>hr i y j v z hy hv o,fun u O=>?_⟩;obtain ⟨j,D,rfl⟩:=qaj.1 O;have E:j<y.cells.length:=(by omega);exact (hr i y j _ _ hy (qb D) (qb E)).one (l3 _ (q9 E)));have h1:∀ u∈news,u.oneCell'=true:=(by intro u O;obtain ⟨j,D,rfl⟩:=qaj.1 O;have R:j / de.size<(y0::ys).length:=(by rw [Nat.div_lt_iff_lt_mul o];omega);refine (T (j / de.size) _ (qb R)).2 _ ?_;rw [qb7];refine ⟨j % de.size,?_⟩;rw [qaa,qo (Nat.mod_lt _ o),qam,show j / de.size*de.size+j % de.size=j by rw [Nat.mul_comm];exact Nat.div_add_mod j de.size];exact qb D);obtain ⟨v',w',d,F,K,U,L⟩:=run_append_own_at (P:=P) w 0 t ty e i z de.size de.bytes ht hi r p q B o v n cs a ⟨b,off,none⟩ (y0::ys).length cap news hn
      (fun j u h=>by rw [kbg];exact l j u h) h1 (by unfold maxLen;omega) f (by omega)
    refine ⟨v',w',news,d,F,K,L,hn,fun i x j v y hx hv hy=>?_,k,fun h=>by cases h⟩;have D:j<de.size:=(by have:=(qf.1 hy).1;rw [(k x (qj hx)).1] at this;exact this);refine (T i x hx).1 j v y ?_ hy;rw [qaa,qo D,qam];exact hv
theorem ksq {v:Value} {e:TypeId} {size n:Nat} {cs:List Value} (h:w.ownsRow 0 e size v n cs):kak v=v.ownBlock:=by rcases h.2 with ⟨rfl,_⟩ | ⟨g,cap,cur,rfl,_⟩ <;> rfl
theorem kv4 {v:Value} {e:TypeId} {size n b:Nat} {cs:List Value} (h:w.ownsRow 0 e size v n cs) (a:v.ownBlock=some b):Blk v b := .of (by rw [ksq h];exact a)
theorem k7v {v:Value} {e:TypeId} {size n b:Nat} {cs:List Value} (h:w.ownsRow 0 e size v n cs) (a:Blk v b):v.ownBlock=some b:=by rw [<- ksq h];rcases h.2 with ⟨rfl,_⟩ | ⟨g,cap,cur,rfl,_⟩ <;> exact a.sl
theorem kr5 {v:Value} {e:TypeId} {size n:Nat} {cs:List Value} (h:w.ownsRow 0 e size v n cs):v.oneCell'=true:=by rcases h.2 with ⟨rfl,_⟩ | ⟨g,cap,cur,rfl,_⟩ <;> rfl
theorem kaef {x y:Operand} {e:TypeId} {de:TD} {n m:Nat} (xs zs:List FV) (Z:o.op = .call { callee := .builtin .append,args:=#[x,y],argTypes:=#[t,t] }) (hd:TdOk P t d) (hk:d.kind = .slice e) (L:TdOk P e de) (M:0<de.size) (N:de.zero.length=de.size) (hx:st.eval x = .row id n) (C:kaa st.heap id=some (.frow e de.size xs)) (hn:n=xs.length) (hy:st.eval y = .fz (.lst de.size m zs)\/st.eval y = .lim de.size m zs) (D:(xs.length+zs.length)*(de.bytes+1)<=140737488355328):
    StepA P o st (.row id (xs++zs).length) ((id, .frow e de.size (xs++zs))::st.heap) st.ids:=by
  subst hn;intro F S0 N0 ψ S a w r;have l:=r.core;obtain ⟨O,⟨h0,E,cs,g,G,hr⟩,Q⟩:=l.obj id _ C;have hv:=r.eval x;rw [hx] at hv;have R:a.eval x=ψ.val id:=by
    generalize a.eval x=u at hv;cases hv with
    | row hK hn h1 hv=>exact hv h0.symm
  have T:RF S w (a.eval y) (.lst de.size m zs):=by
    have hv:=r.eval y;rcases hy with hy | hy
    · rw [hy] at hv;exact hv.inv
    · rw [hy] at hv
      generalize a.eval y=u at hv;cases hv with
      | lim h=>exact h
  have s:=D;rw [Nat.mul_add,qbk] at s;obtain ⟨v',w',news,p,f,c,H,aa,U,I,J⟩:=k8a o.type (hd.slice hk) L M N g T (by omega) (by omega);have V:(xs++zs).length=xs.length+zs.length:=qy;have K:ψ.len id<(xs++zs).length\/(ψ.len id=(xs++zs).length/\v'=ψ.val id):=by
    by_cases A:zs=[]
    · refine .inr ⟨by rw [h0,A];simp,J A⟩
    · have:0<zs.length:=List.length_pos_iff.2 A
      exact .inl (by omega)
  have q:∀ k,k<w.heap.size->¬ Blk (ψ.val id) k->w'.heap[k]?=w.heap[k]?:=fun k hk X=>c.block k hk fun e=>X (kv4 g e.symm);have Y:Same S w w':=fun k hk hl=>q k hl fun e=>(Q k e).1 hk;obtain ⟨c1,c2,c3⟩:=l.upd (n:=(xs++zs).length) (v:=v') (w':=w') (ob' := .frow e de.size (xs++zs)) C c.size q K (fun b B=>by
      have B:=k7v f B;rcases H with h | h
      · exact .inl (kv4 g (h ▸ B))
      · rw [h] at B;injection B with B;exact .inr (by omega))
    ⟨kbh _ _,E,cs++news,by rw [kaj,V];exact f,fun z M=>(qat.1 M).elim (G z) (I z),(RowR.append E (fun i x j v y h1 h2 h3=>hr i x j v y h1 h2 h3) U g.1 G).keep Y⟩
  refine kae w' v' ?_ ⟨_,S,c1, .row O (by rw [kbh];exact qx _) (kr5 f) (fun _=>(kaj _ _).symm),⟨c.os,c.tape,c.output,c.size,c3,fun _=>kq0 p⟩,kn4 K,fun _ h=>h,fun _ h=>h,c2⟩;simp only [execOp,Z,resolve,invoke,builtin,Sem.run_bind,Sem.run_pure,Result.andThen_ok,List.map_toArray,qa5,List.map_nil,R,p]
theorem kgh (id:Nat) (e:TypeId) (size t:Nat) (hx:st.get t = .fz (.atom (.slice none 0 0)):=by kernel_rfl) (c:st.ids.contains id=false:=by kernel_rfl) (d:0<size:=by decide):
    LeSt st { st with tmps:=(t, .row id 0)::st.tmps,heap:=(id, .frow e size [])::st.heap,ids:=id::st.ids }:=by
  have c:id∉st.ids:=by simpa using c
  intro F S0 N0 ψ S a w hs;have hadd:=hs.core.add (n:=0) (v := .slice none 0 0) (w':=w) (ob := .frow e size []) (kaf _) c (fun b f=>by cases f) ⟨kbh _ _,d,[],by rw [kaj];exact ⟨by simp, .inl ⟨rfl,rfl⟩⟩,(fun x hx=>by cases hx),fun i x j v y h=>by simp at h⟩;refine ⟨ψ.set id 0 (.slice none 0 0),S,hs.defers,hs.size,fun k=>?_,hadd⟩;simp only [St.get,kas];split
  · rename_i hk
    subst hk;have:=hs.tmps t;rw [hx] at this;rw [this.atom];exact .row (qv ..) (qak _) rfl fun _=>(kaj _ _).symm
  · exact (hs.tmps k).keep (ka4 c _ _) (fun _ h=>qh _ h) (fun _ h=>h) (fun _ _ _=>rfl)
end
end Go.Proofs.YtdnfbjahbkpibaaGreatDoor
set_option linter.all false
set_option linter.unusedSectionVars false
namespace Go.Proofs.YtdnfbjahbkpibaaGreatDoor
open Go Go.RowKit
variable [Dr]
abbrev Res:=Option (AV×List (Nat×AObj)×List Nat)
def fresh (l:List Nat):Nat:=l.foldl Nat.max 0+1
def nres (st:St) (c:Option AV):Res:=match c with
  | some c=>some (c,st.heap,st.ids)
  | none=>none
def kn5 (T:List (TypeId×TD)) (t:TypeId):Bool:=match kad T t with
  | some d=>match d.kind with
    | .bool=>true
    | _=>false
  | none=>false
def lenX (T:List (TypeId×TD)) (st:St) (x:Operand) (t:TypeId):Option AV:=match kad T t with
  | some d=>match d.kind,st.eval x with
    | .slice _,x=>match lenOf x with
      | some n=>some (.fz (.atom (.int .i64 n)))
      | none=>none
    | .str, .fz (.atom (.string s))=>some (.fz (.atom (.int .i64 s.size)))
    | _,_=>none
  | none=>none
def fldX (T:List (TypeId×TD)) (st:St) (s:TypeId) (x:Operand) (f:Nat):Option AV:=match kad T s with
  | some d=>match d.kind with
    | .st fs=>match fs[f]? with
      | some (ft,off)=>match kad T ft with
        | some df=>bif Nat.beq df.size 0 then none else koq st off (st.eval x)
        | none=>none
      | none=>none
    | _=>none
  | none=>none
def litX (T:List (TypeId×TD)) (st:St) (t:TypeId) (n:Nat) (parts:Array (Nat×Operand)):Option AV:=match kad T t with
  | some d=>match d.kind with
    | .slice e=>match kad T e with
      | some de=>match knf de.size 0 (kct st parts) with
        | some xs=>bif Nat.beq xs.length n && (Nat.ble 1 de.size && Nat.ble (n*de.size) 16777216) then some (.lim de.size n xs) else none
        | none=>none
      | none=>none
    | _=>none
  | none=>none
def boxX (e:TypeId) (st:St) (cells:List AV):Res:=bif cells.all AV.single && !st.ids.contains (fresh st.ids) then some (.ref (fresh st.ids) 0 0,(fresh st.ids, .box e cells)::st.heap,fresh st.ids::st.ids) else none
def kve (T:List (TypeId×TD)) (st:St) (t:TypeId) (x y:Operand):Res:=match kad T t,st.eval x with
  | some d, .ref id n off=>match kaa st.heap id with
    | some (.box e cells)=>bif Nat.beq n 0 && (Nat.beq (st.eval y).cells.length d.size && ((st.eval y).cells.all AV.single && Nat.ble (off+(st.eval y).cells.length) cells.length)) then some (.any,(id, .box e (kcg cells off (st.eval y).cells))::st.heap,st.ids) else none
    | _=>none
  | _,_=>none
def kzk (T:List (TypeId×TD)) (o:Oper) (st:St):Option AV:=match o.op with
  | .move x=>some (st.eval x)
  | .assign x=>some (st.eval x)
  | .pick c x y=>match st.eval c with
    | .fz (.atom (.bool b))=>some (bif b then st.eval x else st.eval y)
    | _=>none
  | .binOp op t x y _=>match st.eval x,st.eval y with
    | .fz (.atom u), .fz (.atom v)=>match binV (kn5 T t) op u v with
      | some r=>some (.fz (.atom r))
      | none=>none
    | _,_=>none
  | .unOp op _ x=>match st.eval x with
    | .fz (.atom u)=>match unV op u with
      | some r=>some (.fz (.atom r))
      | none=>none
    | _=>none
  | .load t x=>match kad T t,kml st (st.eval x) with
    | some d,some xs=>kl5 d xs
    | _,_=>none
  | .fieldAddr s x f=>fldX T st s x f
  | .extract x i=>match st.eval x with | .fz (.tup xs)=>(xs[i]?).map .fz | .tup xs=>xs[i]? | _=>none
  | .nilCheck x=>koq st 0 (st.eval x)
  | .build t parts=>k5p T st t parts
  | .indexAddr t x y=>arrX T st t x y
  | .buildSlice t n parts=>litX T st t n parts
  | .call c=>match c.callee,c.args.toList,c.argTypes.toList with
    | .builtin .len,[x],[t]=>lenX T st x t
    | _,_,_=>none
  | .makeFunc (.func f) first cap=>bif first.isEmpty then some (.fn f (cap.toList.map st.eval)) else (bif cap.isEmpty then some (.mth f (first.toList.map st.eval)) else none)
  | _=>none
def kvz (T:List (TypeId×TD)) (o:Oper) (st:St):Res:=match o.op with
  | .box e x=>boxX e st (st.eval x).cells
  | .alloc e=>match kad T e with
    | some d=>match kq1 d with
      | some cells=>boxX e st cells
      | none=>none
    | none=>none
  | .store t x y=>kve T st t x y
  | _=>nres st (kzk T o st)
variable {P:Program} {w w':World} {S S':Nat->Prop} {ψ:Env} {T:List (TypeId×TD)} {o:Oper} {a:Act} {st:St}
theorem kadd {c0:Option AV} {c:AV} {h:List (Nat×AObj)} {i:List Nat} (hr:nres st c0=some (c,h,i)) (hn:∀ x,c0=some x->NStep P o st x):StepA P o st c h i:=by
  cases c0 with
  | none=>cases hr
  | some x=>
    simp only [nres,qc,qw] at hr;obtain ⟨rfl,rfl,rfl⟩:=hr;exact (hn x rfl).step
theorem kme {α:Type} {xs:Array α} {x:α} (h:xs.toList=[x]):xs=#[x]:=by apply qbx;simpa using h
theorem kkt (c:AV) (h:TOk P T:=by exact tt_ok) (hx:kzk T o st=some c:=by kernel_rfl):NStep P o st c:=by
  unfold kzk at hx;split at hx
  · rename_i x a;injection hx with hx;subst hx;exact kzn (.inl a)
  · rename_i x a;injection hx with hx;subst hx;exact kzn (.inr a)
  · rename_i c x y a
    split at hx
    · rename_i b g
      injection hx with hx;subst hx;exact kab9 a g
    · cases hx
  · rename_i op t x y yt a
    split at hx
    · rename_i u v p hv
      split at hx
      · rename_i r hr
        injection hx with hx;subst hx;refine kaai (kn5 T t) (fun g=>?_) a p hv hr;unfold kn5 at g;split at g
        · rename_i d hd
          split at g
          · rename_i hk
            obtain ⟨_,e,h1,l⟩:=h.get hd;rw [hk] at l;cases e <;> simp [kfz] at l;exact h1
          · cases g
        · cases g
      · cases hx
    · cases hx
  · rename_i op t x a
    split at hx
    · rename_i u p
      split at hx
      · rename_i r hr
        injection hx with hx;subst hx;exact n_un a p hr
      · cases hx
    · cases hx
  · rename_i t x a
    split at hx
    · rename_i d xs hd j
      exact kak1 a (h.get hd) j hx
    · cases hx
  · rename_i s x f a
    unfold fldX at hx;split at hx
    · rename_i d hd
      split at hx
      · rename_i fs hk
        split at hx
        · rename_i ft off A
          split at hx
          · rename_i df q
            cases g:Nat.beq df.size 0 with
            | true=>rw [g] at hx;cases hx
            | false=>
              rw [g] at hx;exact kah1 a (h.get hd) hk A (h.get q) (fun e=>by rw [e] at g;cases g) hx
          · cases hx
        · cases hx
      · cases hx
    · cases hx
  · rename_i x i a
    exact k18 a hx
  · rename_i x a
    exact k9d a hx
  · rename_i t parts a
    exact k7h h a hx
  · rename_i t x y a
    exact n_arr h a hx
  · rename_i t n parts a
    unfold litX at hx;split at hx
    · rename_i d hd
      split at hx
      · rename_i e hk
        split at hx
        · rename_i de w
          split at hx
          · rename_i xs j
            cases g:(Nat.beq xs.length n && (Nat.ble 1 de.size && Nat.ble (n*de.size) 16777216)) with
            | false=>rw [g] at hx;cases hx
            | true=>
              rw [g] at hx;simp only [qe,qc] at hx;subst hx;simp only [qr] at g;exact kagd a (h.get hd) hk (h.get w) (qp g.2.1) (qk g.1) (qp g.2.2) j
          · cases hx
        · cases hx
      · cases hx
    · cases hx
  · rename_i c a
    split at hx
    · rename_i x t h1 l z
      have m:o.op = .call { callee := .builtin .len,args:=#[x],argTypes:=#[t] }:=(by obtain ⟨cl,as_,ts⟩:=c;simp only at h1 l z;rw [a,h1,kme l,kme z]);unfold lenX at hx;split at hx
      · rename_i d hd
        split at hx
        · rename_i e hk
          split at hx
          · rename_i n hn
            injection hx with hx;subst hx;exact k0i m (h.get hd) hk hn
          · cases hx
        · rename_i s hk hv
          injection hx with hx;subst hx;exact k2e m (h.get hd) hk hv
        · cases hx
      · cases hx
    · cases hx
  · rename_i f first cap a
    cases g:first.isEmpty with
    | false=>
      rw [g] at hx;cases k:cap.isEmpty with
      | false=>rw [k] at hx;cases hx
      | true=>
        rw [k] at hx;have:cap=#[]:=(by simpa using k);subst this;simp only [qd,qe,qc] at hx;subst hx;exact kaga a
    | true=>
      rw [g] at hx;have:first=#[]:=by simpa using g
      subst this;simp only [qe,qc] at hx;subst hx;exact kadm a
  · cases hx
theorem k5n (f:TOk P T) {c:AV} {h:List (Nat×AObj)} {i:List Nat} (hx:kvz T o st=some (c,h,i)):StepA P o st c h i:=by
  unfold kvz at hx;split at hx
  · rename_i e x b
    unfold boxX at hx;cases a:((st.eval x).cells.all AV.single && !st.ids.contains (Go.Proofs.YtdnfbjahbkpibaaGreatDoor.fresh st.ids)) with
    | false=>rw [a] at hx;cases hx
    | true=>
      rw [a] at hx;simp only [qe,qc,qw] at hx;obtain ⟨rfl,rfl,rfl⟩:=hx;simp only [qr,qby] at a;exact kage b rfl a.1 a.2
  · rename_i e b
    split at hx
    · rename_i d hd
      split at hx
      · rename_i cells g
        unfold boxX at hx;cases a:(cells.all AV.single && !st.ids.contains (Go.Proofs.YtdnfbjahbkpibaaGreatDoor.fresh st.ids)) with
        | false=>rw [a] at hx;cases hx
        | true=>
          rw [a] at hx;simp only [qe,qc,qw] at hx;obtain ⟨rfl,rfl,rfl⟩:=hx;simp only [qr,qby] at a;exact k0s b (f.get hd) g a.2
      · cases hx
    · cases hx
  · rename_i t x y b
    unfold kve at hx;split at hx
    · rename_i d id n off hd j
      split at hx
      · rename_i e cells k
        cases a:(Nat.beq n 0 && (Nat.beq (st.eval y).cells.length d.size && ((st.eval y).cells.all AV.single && Nat.ble (off+(st.eval y).cells.length) cells.length))) with
        | false=>rw [a] at hx;cases hx
        | true=>
          rw [a] at hx;simp only [qe,qc,qw] at hx;obtain ⟨rfl,rfl,rfl⟩:=hx;simp only [qr] at a;obtain ⟨b1,b2,b3,b4⟩:=a;obtain rfl:=qk b1;exact k7i b (f.get hd) j k rfl (qk b2) b3 (qp b4)
      · cases hx
    · cases hx
  · exact kadd hx fun z g=>kkt _ (h:=f) (hx:=g)
def ks2 (st:St) (o:Oper):Bool:=match o.dst with
  | some t=>Nat.blt t st.n
  | none=>true
theorem km0 {st:St} {o:Oper} (h:ks2 st o=true):∀ t,o.dst=some t->t<st.n:=fun t ht=>by unfold ks2 at h;rw [ht] at h;exact qbd (by simpa [Nat.blt_eq] using h)
end Go.Proofs.YtdnfbjahbkpibaaGreatDoor
set_option linter.all false
set_option linter.unusedSectionVars false
namespace Go.Proofs.YtdnfbjahbkpibaaGreatDoor
open Go Go.RowKit
variable [Dr]
inductive C0 where
  | keep
  | zr
  | sl (size:Nat)
  | px
inductive C1 where
  | one (c:C0)
  | ag (l:List C0)
  | drop
def co0F:C0->FV->FV
  | .sl size, .atom (.slice none 0 0)=>bif Nat.ble 1 size then .lst size 0 [] else .atom (.slice none 0 0)
  | .px, .atom (.pointer none) => .bx []
  | _,x=>x
def co0:C0->AV->AV
  | c, .fz x => .fz (co0F c x)
  | .sl _, .lim s n xs => .fz (.lst s n xs)
  | .zr, .row id _ => .row id 0
  | _,x=>x
def zipF:List C0->List FV->List FV
  | c::l,x::xs=>co0F c x::zipF l xs
  | _,xs=>xs
def zip0:List C0->List AV->List AV
  | c::l,x::xs=>co0 c x::zip0 l xs
  | _,xs=>xs
def co1:C1->AV->AV
  | .one c,x=>co0 c x
  | .ag l, .fz (.agg xs) => .fz (.agg (zipF l xs))
  | .ag l, .agg xs=>aggA (zip0 l xs)
  | .ag _,x=>x
  | .drop,_ => .any
def ok0 (ids:List Nat):AV->Bool
  | .fz _=>true
  | .ref id _ _=>ids.contains id
  | .row id _=>ids.contains id
  | .mp id=>ids.contains id
  | .opt id=>ids.contains id
  | .sdp id _=>ids.contains id
  | .win id _ _ _ _=>ids.contains id
  | .irow id _ _=>ids.contains id
  | .iref id _ _ _=>ids.contains id
  | .lim _ _ _=>true
  | .any=>true
  | _=>false
def ok1 (ids:List Nat):AV->Bool
  | .agg cs=>cs.all (ok0 ids)
  | .tup cs=>cs.all (ok0 ids)
  | .fn _ cs=>cs.all (ok0 ids)
  | .mth _ cs=>cs.all (ok0 ids)
  | x=>ok0 ids x
def kss (st:St) (ids:List Nat):List (Nat×C1)->Option (List (Nat×AV))
  | []=>some []
  | (t,c)::l=>match ok1 ids (co1 c (st.get t)),kss st ids l with
    | true,some r=>some ((t,co1 c (st.get t))::r)
    | _,_=>none
def ksr (st:St) (ids:List Nat):List (Nat×List C0)->Option (List (Nat×AObj))
  | []=>some []
  | (id,l)::r=>match kaa st.heap id,ksr st ids r with
    | some (.box e cells),some r'=>bif ids.contains id && (zip0 l cells).all (ok1 ids) then some ((id, .box e (zip0 l cells))::r') else none
    | some (.frow e s xs),some r'=>bif ids.contains id then some ((id, .frow e s xs)::r') else none
    | some (.gho cs vs),some r'=>bif ids.contains id && vs.all (ok1 ids) then some ((id, .gho cs vs)::r') else none
    | some (.was ψ0 ids0 S0 w0),some r'=>bif ids.contains id && ids0.all ids.contains then some ((id, .was ψ0 ids0 S0 w0)::r') else none
    | some (.smap kv),some r'=>bif ids.contains id then some ((id, .smap kv)::r') else none
    | some (.tab g ov eo ei rows),some r'=>bif ids.contains id then some ((id, .tab g ov eo ei rows)::r') else none
    | some (.glb gs),some r'=>bif ids.contains id then some ((id, .glb gs)::r') else none
    | some (.sit s pos),some r'=>bif ids.contains id then some ((id, .sit s pos)::r') else none
    | some (.memo Φ h),some r'=>bif ids.contains id then some ((id, .memo Φ none)::r') else none
    | some (.xo (.imap kv)),some r'=>bif ids.contains id then some ((id, .xo (.imap kv))::r') else none
    | some (.xo (.opq J)),some r'=>bif ids.contains id then some ((id, .xo (.opq J))::r') else none
    | some (.xo (.mit m a b c)),some r'=>bif ids.contains id && ids.contains m then some ((id, .xo (.mit m a b c))::r') else none
    | _,_=>none
def xoK:XO->Bool
  | .imap _=>true
  | .opq _=>true
  | _=>false
def coSt (st:St) (ids:List Nat) (ts:List (Nat×C1)) (os:List (Nat×List C0)):Option St:=match ids.all st.ids.contains,kss st ids ts,ksr st ids os with
  | true,some tmps,some heap=>some { n:=st.n,tmps:=tmps,heap:=heap,ids:=ids,dfr:=st.dfr }
  | _,_,_=>none
variable {P:Program} {F S0:Nat->Prop} {N0:Nat} {w w':World} {S S':Nat->Prop} {ψ:Env} {K K':Nat->Prop} {T:List (TypeId×TD)} {o:Oper} {a:Act} {st:St} {t:TypeId} {d:TD} {ids:List Nat}
theorem k0t {c:C0} {v:Value} {x:FV} (h:RF S w v x):RF S w v (co0F c x):=by
  unfold co0F;split
  · rename_i size
    cases a:Nat.ble 1 size with
    | false=>exact h
    | true=>
      rw [h.atom_eq];exact .lst (A:=none) (cap:=0) (xs:=[]) (fun _=>[]) rfl (qx _) (by omega) (qp a) (fun i x hx=>by simp at hx) (fun i x hx=>by simp at hx) (fun i x j v y hx=>by simp at hx)
  · rw [h.atom_eq]
    exact .bn
  · exact h
theorem krq {c:C0} {x:FV} (h:x.single=true):(co0F c x).single=true:=by
  unfold co0F;split
  · rename_i size
    cases a:Nat.ble 1 size <;> rfl
  · rfl
  · exact h
theorem kac7 {c:C0} {v:Value} {x:AV} (h:RV ψ K S w v x):RV ψ K S w v (co0 c x):=by
  unfold co0;split
  · exact .fz (k0t h.inv)
  · cases h with | lim h=>exact .fz h
  · cases h with | row hK hn h1 hv=>exact .row hK (qak _) h1 fun h=>hv (by omega)
  · exact h
theorem k8v {c:C0} {x:AV} (h:x.single=true):(co0 c x).single=true:=by
  unfold co0;split
  · exact krq h
  · rfl
  · rfl
  · exact h
theorem ktb:∀ (l:List C0) (xs:List FV) (i:Nat) (y:FV),(zipF l xs)[i]?=some y->∃ c x,xs[i]?=some x/\(y=co0F c x\/y=x)
  | [],xs,i,y,h=>⟨.keep,y,by cases xs <;> exact h, .inr rfl⟩
  | c::l,[],i,y,h=>by simp [zipF] at h
  | c::l,x::xs,0,y,h=>by simp [zipF] at h;exact ⟨c,x,rfl, .inl h.symm⟩
  | c::l,x::xs,i+1,y,h=>by simp only [zipF,qaw] at h ⊢;exact ktb l xs i y h
theorem kx8:∀ (l:List C0) (xs:List FV),(zipF l xs).length=xs.length
  | [],xs=>by cases xs <;> rfl
  | c::l,[]=>rfl
  | c::l,x::xs=>by simp [zipF,kx8 l xs]
theorem kxp:∀ (l:List C0) (xs:List AV) (i:Nat) (y:AV),(zip0 l xs)[i]?=some y->∃ c x,xs[i]?=some x/\(y=co0 c x\/y=x)
  | [],xs,i,y,h=>⟨.keep,y,by cases xs <;> exact h, .inr rfl⟩
  | c::l,[],i,y,h=>by simp [zip0] at h
  | c::l,x::xs,0,y,h=>by simp [zip0] at h;exact ⟨c,x,rfl, .inl h.symm⟩
  | c::l,x::xs,i+1,y,h=>by simp only [zip0,qaw] at h ⊢;exact kxp l xs i y h
theorem kxz:∀ (l:List C0) (xs:List AV),(zip0 l xs).length=xs.length
  | [],xs=>by cases xs <;> rfl
  | c::l,[]=>rfl
  | c::l,x::xs=>by simp [zip0,kxz l xs]
theorem k8l (l:List C0) {cs:Array Value} {xs:List AV} (h1:∀ x∈xs,x.single=true) (hr:∀ (i:Nat) (v:Value) (x:AV),cs[i]?=some v->xs[i]?=some x->RV ψ K S w v x):
    (∀ x∈zip0 l xs,x.single=true)/\∀ (i:Nat) (v:Value) (x:AV),cs[i]?=some v->(zip0 l xs)[i]?=some x->RV ψ K S w v x:=by
  refine ⟨fun x hx=>?_,fun i v x hv hx=>?_⟩
  · obtain ⟨i,hi⟩:=qb7.1 hx
    obtain ⟨c,y,hy,a⟩:=kxp l xs i x hi;have:=h1 y (qj hy);rcases a with rfl | rfl
    · exact k8v this
    · exact this
  · obtain ⟨c,y,hy,a⟩:=kxp l xs i x hx
    have:=hr i v y hv hy;rcases a with rfl | rfl
    · exact kac7 this
    · exact this
theorem kov (c:C1) {v:Value} {x:AV} (h:RV ψ K S w v x):RV ψ K S w v (co1 c x):=by
  unfold co1;split
  · exact kac7 h
  · rename_i l xs
    have h:=h.inv;cases h with
    | agg hs h1 hr=>
      refine .fz (.agg (by rw [kx8];exact hs) (fun y hy=>?_) fun i v y hv hy=>?_)
      · obtain ⟨i,hi⟩:=qb7.1 hy
        obtain ⟨c,z,a,b⟩:=ktb l xs i y hi;have:=h1 z (qj a);rcases b with rfl | rfl
        · exact krq this
        · exact this
      · obtain ⟨c,z,a,b⟩:=ktb l xs i y hy
        have:=hr i v z hv a;rcases b with rfl | rfl
        · exact k0t this
        · exact this
  · rename_i l xs
    cases h with
    | agg hs h1 hr=>
      obtain ⟨z1,z2⟩:=k8l l h1 hr;exact RV.aggA (by rw [kxz];exact hs) z1 z2
  · exact h
  · exact .any
theorem RV.sub0 {v:Value} {x:AV} (h:RV ψ K S w v x) (a:ok0 ids x=true):RV ψ (·∈ids) S w v x:=by
  cases h with
  | fz h=>exact .fz h
  | agg=>cases a
  | tup=>cases a
  | ref hK hn h1 hv=>exact .ref (by simpa [ok0] using a) hn h1 hv
  | row hK hn h1 hv=>exact .row (by simpa [ok0] using a) hn h1 hv
  | lim h=>exact .lim h
  | mp hK h1 hv=>exact .mp (by simpa [ok0] using a) h1 hv
  | opt hK h1 hv=>exact .opt (by simpa [ok0] using a) h1 hv
  | sdp hK hn h1 hv=>exact .sdp (by simpa [ok0] using a) hn h1 hv
  | win hK hn h1 hv=>exact .win (by simpa [ok0] using a) hn h1 hv
  | irow hK hn h1 hv=>exact .irow (by simpa [ok0] using a) hn h1 hv
  | iref hK hn h1 hv=>exact .iref (by simpa [ok0] using a) hn h1 hv
  | bsl=>cases a
  | fn=>cases a
  | mth=>cases a
  | any=>exact .any
theorem RV.sub1 {v:Value} {x:AV} (h:RV ψ K S w v x) (a:ok1 ids x=true):RV ψ (·∈ids) S w v x:=by
  cases h with
  | fz h=>exact .fz h
  | agg hs h1 hr=>exact .agg hs h1 fun i v x hv hx=>(hr i v x hv hx).sub0 (qu.1 a x (qj hx))
  | tup hs hr=>exact .tup hs fun i v x hv hx=>(hr i v x hv hx).sub0 (qu.1 a x (qj hx))
  | ref hK hn h1 hv=>exact .ref (by simpa [ok1,ok0] using a) hn h1 hv
  | row hK hn h1 hv=>exact .row (by simpa [ok1,ok0] using a) hn h1 hv
  | lim h=>exact .lim h
  | mp hK h1 hv=>exact .mp (by simpa [ok1,ok0] using a) h1 hv
  | opt hK h1 hv=>exact .opt (by simpa [ok1,ok0] using a) h1 hv
  | sdp hK hn h1 hv=>exact .sdp (by simpa [ok1,ok0] using a) hn h1 hv
  | win hK hn h1 hv=>exact .win (by simpa [ok1,ok0] using a) hn h1 hv
  | irow hK hn h1 hv=>exact .irow (by simpa [ok1,ok0] using a) hn h1 hv
  | iref hK hn h1 hv=>exact .iref (by simpa [ok1,ok0] using a) hn h1 hv
  | bsl=>cases a
  | fn hs hr=>exact .fn hs fun i v x hv hx=>(hr i v x hv hx).sub0 (qu.1 a x (qj hx))
  | mth hs hr=>exact .mth hs fun i v x hv hx=>(hr i v x hv hx).sub0 (qu.1 a x (qj hx))
  | any=>exact .any
theorem ks0:∀ {ts:List (Nat×C1)} {r:List (Nat×AV)} (t:Nat),kss st ids ts=some r->look .any r t = .any\/∃ c,look .any r t=co1 c (st.get t)/\ok1 ids (co1 c (st.get t))=true
  | [],r,t,h=>by simp only [kss,qc] at h;subst h;exact .inl rfl
  | (k,c)::l,r,t,h=>by
    simp only [kss] at h;split at h
    · rename_i r' h1 a
      injection h with h;subst h;rw [kas];by_cases hk:k=t
      · subst hk
        rw [qo rfl];exact .inr ⟨c,rfl,h1⟩
      · rw [qi hk]
        exact ks0 t a
    · cases h
theorem kc6:∀ {os:List (Nat×List C0)} {r:List (Nat×AObj)} (id:Nat) (ob:AObj),ksr st ids os=some r->kaa r id=some ob->id∈ids /\
    ((∃ l e cells,kaa st.heap id=some (.box e cells)/\ob = .box e (zip0 l cells)/\(zip0 l cells).all (ok1 ids)=true)\/(∃ e s xs,kaa st.heap id=some (.frow e s xs)/\ob = .frow e s xs)\/(∃ cs vs,kaa st.heap id=some (.gho cs vs)/\ob = .gho cs vs/\vs.all (ok1 ids)=true) \/
      (∃ ψ0 ids0 S0 w0,kaa st.heap id=some (.was ψ0 ids0 S0 w0)/\ob = .was ψ0 ids0 S0 w0/\ids0.all ids.contains=true)\/(∃ kv,kaa st.heap id=some (.smap kv)/\ob = .smap kv)\/(∃ g ov eo ei rows,kaa st.heap id=some (.tab g ov eo ei rows)/\ob = .tab g ov eo ei rows)\/(∃ gs,kaa st.heap id=some (.glb gs)/\ob = .glb gs)\/(∃ s pos,kaa st.heap id=some (.sit s pos)/\ob = .sit s pos)\/(∃ Φ h,kaa st.heap id=some (.memo Φ h)/\ob = .memo Φ none)\/(∃ k,kaa st.heap id=some (.xo k)/\ob = .xo k/\xoK k=true)\/∃ m a b c,kaa st.heap id=some (.xo (.mit m a b c))/\ob = .xo (.mit m a b c)/\ids.contains m=true)
  | [],r,id,ob,h,d=>by simp only [ksr,qc] at h;subst h;cases d
  | (k,l)::os,r,id,ob,h,d=>by
    simp only [ksr] at h;split at h
    · rename_i e cells r' h1 i
      cases f:(ids.contains k && (zip0 l cells).all (ok1 ids)) with
      | false=>rw [f] at h;cases h
      | true=>
        rw [f] at h;simp only [qe,qc] at h;subst h;rw [kac] at d;simp only [qr] at f;by_cases hk:k=id
        · subst hk
          rw [qo rfl] at d;injection d with d;exact ⟨by simpa using f.1, .inl ⟨l,e,cells,h1,d.symm,f.2⟩⟩
        · rw [qi hk] at d
          exact kc6 id ob i d
    · rename_i e s xs r' h1 i
      cases f:ids.contains k with
      | false=>rw [f] at h;cases h
      | true=>
        rw [f] at h;simp only [qe,qc] at h;subst h;rw [kac] at d;by_cases hk:k=id
        · subst hk
          rw [qo rfl] at d;injection d with d;exact ⟨by simpa using f, .inr (.inl ⟨e,s,xs,h1,d.symm⟩)⟩
        · rw [qi hk] at d
          exact kc6 id ob i d
    · rename_i cs vs r' h1 i
      cases f:(ids.contains k && vs.all (ok1 ids)) with
      | false=>rw [f] at h;cases h
      | true=>
        rw [f] at h;simp only [qe,qc] at h;subst h;rw [kac] at d;simp only [qr] at f;by_cases hk:k=id
        · subst hk
          rw [qo rfl] at d;injection d with d;exact ⟨by simpa using f.1, .inr (.inr (.inl ⟨cs,vs,h1,d.symm,f.2⟩))⟩
        · rw [qi hk] at d
          exact kc6 id ob i d
    · rename_i ψ0 ids0 S0 w0 r' h1 i
      cases f:(ids.contains k && ids0.all ids.contains) with
      | false=>rw [f] at h;cases h
      | true=>
        rw [f] at h;simp only [qe,qc] at h;subst h;rw [kac] at d;simp only [qr] at f;by_cases hk:k=id
        · subst hk
          rw [qo rfl] at d;injection d with d;exact ⟨by simpa using f.1, .inr (.inr (.inr (.inl ⟨ψ0,ids0,S0,w0,h1,d.symm,f.2⟩)))⟩
        · rw [qi hk] at d
          exact kc6 id ob i d
    · rename_i kv r' h1 i
      cases f:ids.contains k with
      | false=>rw [f] at h;cases h
      | true=>
        rw [f] at h;simp only [qe,qc] at h;subst h;rw [kac] at d;by_cases hk:k=id
        · subst hk
          rw [qo rfl] at d;injection d with d;exact ⟨by simpa using f, .inr (.inr (.inr (.inr (.inl ⟨kv,h1,d.symm⟩))))⟩
        · rw [qi hk] at d
          exact kc6 id ob i d
    · rename_i g ov eo ei rows r' h1 i
      cases f:ids.contains k with
      | false=>rw [f] at h;cases h
      | true=>
        rw [f] at h;simp only [qe,qc] at h;subst h;rw [kac] at d;by_cases hk:k=id
        · subst hk
          rw [qo rfl] at d;injection d with d;exact ⟨by simpa using f, .inr (.inr (.inr (.inr (.inr (.inl ⟨g,ov,eo,ei,rows,h1,d.symm⟩)))))⟩
        · rw [qi hk] at d
          exact kc6 id ob i d
    · rename_i gs r' h1 i
      cases f:ids.contains k with
      | false=>rw [f] at h;cases h
      | true=>
        rw [f] at h;simp only [qe,qc] at h;subst h;rw [kac] at d;by_cases hk:k=id
        · subst hk
          rw [qo rfl] at d;injection d with d;exact ⟨by simpa using f, .inr (.inr (.inr (.inr (.inr (.inr (.inl ⟨gs,h1,d.symm⟩))))))⟩
        · rw [qi hk] at d
          exact kc6 id ob i d
    · rename_i s pos r' h1 i
      cases f:ids.contains k with
      | false=>rw [f] at h;cases h
      | true=>
        rw [f] at h;simp only [qe,qc] at h;subst h;rw [kac] at d;by_cases hk:k=id
        · subst hk
          rw [qo rfl] at d;injection d with d;exact ⟨by simpa using f, .inr (.inr (.inr (.inr (.inr (.inr (.inr (.inl ⟨s,pos,h1,d.symm⟩)))))))⟩
        · rw [qi hk] at d
          exact kc6 id ob i d
    · rename_i Φ j r' h1 i
      cases f:ids.contains k with
      | false=>rw [f] at h;cases h
      | true=>
        rw [f] at h;simp only [qe,qc] at h;subst h;rw [kac] at d;by_cases hk:k=id
        · subst hk
          rw [qo rfl] at d;injection d with d;exact ⟨by simpa using f, .inr (.inr (.inr (.inr (.inr (.inr (.inr (.inr (.inl ⟨Φ,j,h1,d.symm⟩))))))))⟩
        · rw [qi hk] at d
          exact kc6 id ob i d
    · rename_i kv r' h1 i
      cases f:ids.contains k with
      | false=>rw [f] at h;cases h
      | true=>
        rw [f] at h;simp only [qe,qc] at h;subst h;rw [kac] at d;by_cases hk:k=id
        · subst hk
          rw [qo rfl] at d;injection d with d;exact ⟨by simpa using f, .inr (.inr (.inr (.inr (.inr (.inr (.inr (.inr (.inr (.inl ⟨_,h1,d.symm,rfl⟩)))))))))⟩
        · rw [qi hk] at d
          exact kc6 id ob i d
    · rename_i kv r' h1 i
      cases f:ids.contains k with
      | false=>rw [f] at h;cases h
      | true=>
        rw [f] at h;simp only [qe,qc] at h;subst h;rw [kac] at d;by_cases hk:k=id
        · subst hk
          rw [qo rfl] at d;injection d with d;exact ⟨by simpa using f, .inr (.inr (.inr (.inr (.inr (.inr (.inr (.inr (.inr (.inl ⟨_,h1,d.symm,rfl⟩)))))))))⟩
        · rw [qi hk] at d
          exact kc6 id ob i d
    · rename_i m x y z r' h1 i
      cases f:(ids.contains k && ids.contains m) with
      | false=>rw [f] at h;cases h
      | true=>
        rw [f] at h;simp only [qe,qc] at h;subst h;rw [kac] at d;simp only [qr] at f;by_cases hk:k=id
        · subst hk
          rw [qo rfl] at d;injection d with d;exact ⟨by simpa using f.1, .inr (.inr (.inr (.inr (.inr (.inr (.inr (.inr (.inr (.inr ⟨m,x,y,z,h1,d.symm,f.2⟩)))))))))⟩
        · rw [qi hk] at d
          exact kc6 id ob i d
    · cases h
theorem kagh {st':St} {ts:List (Nat×C1)} {os:List (Nat×List C0)} (h:coSt st ids ts os=some st':=by kernel_rfl):LeSt st st':=by
  unfold coSt at h;split at h
  · rename_i tmps heap h1 u j
    injection h with h;subst h;intro F S0 N0 ψ S a w hs;refine ⟨ψ,S,hs.defers,hs.size,fun t=>?_,⟨fun id ob n=>?_,fun id id' o o' b n p q y=>?_,hs.core.lt,hs.core.s0,hs.core.n0,hs.core.fr⟩⟩
    · rcases ks0 t u with h | ⟨c,h,hk⟩
      · show RV ψ _ S w _ (look .any tmps t)
        rw [h];exact .any
      · show RV ψ _ S w _ (look .any tmps t)
        rw [h];exact (kov _ (hs.tmps t)).sub1 hk
    · obtain ⟨f,hh⟩:=kc6 id ob j n
      rcases hh with ⟨l,e,cells,d,rfl,g⟩ | ⟨e,s,xs,d,rfl⟩ | ⟨cs,vs,d,rfl,g⟩ | ⟨ψ0,ids0,S0,w0,d,rfl,g⟩ | ⟨kv,d,rfl⟩ | ⟨_,_,_,_,_,d,rfl⟩ | ⟨_,d,rfl⟩ | ⟨_,_,d,rfl⟩ | ⟨_,_,d,rfl⟩ | ⟨kk,d,rfl,hx⟩ | ⟨m,_,_,_,d,rfl,g⟩
      · obtain ⟨_,⟨k0,b,cs,k1,k2,k3,k4,k5⟩,k6⟩:=hs.core.obj id _ d
        obtain ⟨z1,z2⟩:=k8l l k4 k5;exact ⟨f,⟨k0,b,cs,k1,k2,by rw [kxz];exact k3,z1,fun i v x hv hx=>(z2 i v x hv hx).sub1 (qu.1 g x (qj hx))⟩,k6⟩
      · obtain ⟨_,k,k6⟩:=hs.core.obj id _ d
        exact ⟨f,k,k6⟩
      · obtain ⟨_,⟨k0,k1,kn,k3⟩,k6⟩:=hs.core.obj id _ d
        exact ⟨f,⟨k0,k1,kn,fun i v x hv hx=>(k3 i v x hv hx).sub1 (qu.1 g x (qj hx))⟩,k6⟩
      · obtain ⟨_,⟨k0,k1,kn,k2,k3,k4,k5⟩,k6⟩:=hs.core.obj id _ d
        exact ⟨f,⟨k0,k1,kn,k2,fun i hi=>by simpa using qu.1 g i hi,k4,k5⟩,k6⟩
      · obtain ⟨_,k,k6⟩:=hs.core.obj id _ d
        exact ⟨f,k,k6⟩
      · obtain ⟨_,k,k6⟩:=hs.core.obj id _ d
        exact ⟨f,k,k6⟩
      · obtain ⟨_,k,k6⟩:=hs.core.obj id _ d
        exact ⟨f,k,k6⟩
      · obtain ⟨_,k,k6⟩:=hs.core.obj id _ d
        exact ⟨f,k,k6⟩
      · obtain ⟨_,⟨k0,b,es,cl,k1,k2,k3⟩,k6⟩:=hs.core.obj id _ d
        exact ⟨f,⟨k0,b,es,cl,k1,k2,k3.1,trivial⟩,k6⟩
      · obtain ⟨_,k,k6⟩:=hs.core.obj id _ d
        cases kk with
        | imap kv=>exact ⟨f,k,k6⟩
        | opq J=>exact ⟨f,k,k6⟩
        | _=>cases hx
      · obtain ⟨_,⟨k0,k1,b,bm,k2,k3,k4⟩,k6⟩:=hs.core.obj id _ d
        exact ⟨f,⟨k0,by simpa using g,b,bm,k2,k3,k4⟩,k6⟩
    · obtain ⟨_,hh⟩:=kc6 id o j n
      obtain ⟨_,r⟩:=kc6 id' o' j p;have k1:∃ o,kaa st.heap id=some o:=(by rcases hh with ⟨l,_,cells,d,_⟩ | ⟨e,s,xs,d,_⟩ | ⟨cs,vs,d,_⟩ | ⟨_,_,_,_,d,_⟩ | ⟨_,d,_⟩ | ⟨_,_,_,_,_,d,_⟩ | ⟨_,d,_⟩ | ⟨_,_,d,_⟩ | ⟨_,_,d,_⟩ | ⟨_,d,_⟩ | ⟨_,_,_,_,d,_⟩ <;> exact ⟨_,d⟩);have k2:∃ o,kaa st.heap id'=some o:=(by rcases r with ⟨l,_,cells,d,_⟩ | ⟨e,s,xs,d,_⟩ | ⟨cs,vs,d,_⟩ | ⟨_,_,_,_,d,_⟩ | ⟨_,d,_⟩ | ⟨_,_,_,_,_,d,_⟩ | ⟨_,d,_⟩ | ⟨_,_,d,_⟩ | ⟨_,_,d,_⟩ | ⟨_,d,_⟩ | ⟨_,_,_,_,d,_⟩ <;> exact ⟨_,d⟩);obtain ⟨o1,k1⟩:=k1;obtain ⟨o2,k2⟩:=k2;exact hs.core.inj id id' o1 o2 b k1 k2 q y
  · cases h
def ka6 (id:Nat):List (Nat×AObj)->List (Nat×AObj)
  | []=>[]
  | (k,v)::l=>bif Nat.beq k id then ka6 id l else (k,v)::ka6 id l
theorem kbu (id:Nat):∀ {l:List (Nat×AObj)} {k:Nat} {ob:AObj},kaa (ka6 id l) k=some ob->k≠id/\kaa l k=some ob
  | [],k,ob,h=>by cases h
  | (j,v)::l,k,ob,h=>by
    simp only [ka6] at h;cases a:Nat.beq j id with
    | true=>
      rw [a] at h;obtain rfl:=qk a;obtain ⟨h1,b⟩:=kbu j h;refine ⟨h1,?_⟩;rw [kac,qi (Ne.symm h1)];exact b
    | false=>
      rw [a] at h;simp only [qd,kac] at h;rw [kac];by_cases hk:j=k
      · subst hk
        rw [qo rfl] at h ⊢;exact ⟨(fun e=>by subst e;rw [Nat.beq_refl] at a;cases a),h⟩
      · rw [qi hk] at h ⊢
        exact kbu id h
theorem knk {id:Nat}:∀ {l:List (Nat×AObj)} {k:Nat} {ob:AObj},k≠id->kaa l k=some ob->kaa (ka6 id l) k=some ob
  | [],k,ob,_,h=>by cases h
  | (j,v)::l,k,ob,a,h=>by
    simp only [ka6];rw [kac] at h;by_cases b:j=k
    · subst b
      rw [qo rfl] at h;rw [Nat.beq_eq_false a];simp only [qd,kac];exact h
    · rw [qi b] at h
      have ih:=knk a h;cases c:Nat.beq j id with
      | true=>exact ih
      | false=>
        simp only [qd,kac];rw [qi b];exact ih
theorem klz {heap:List (Nat×AObj)} {ids:List Nat} {id:Nat} {e:TypeId} {size:Nat} {xs:List FV} (h:Core F S0 N0 heap ids ψ S w) (G:kaa heap id=some (.frow e size xs)):
    Core F S0 N0 (ka6 id heap) ids ψ (fun b=>S b\/kak (ψ.val id)=some b) w/\RF (fun b=>S b\/kak (ψ.val id)=some b) w (ψ.val id) (.lst size xs.length xs):=by
  obtain ⟨I,n,t⟩:=h.obj id _ G;have p:=n;obtain ⟨h0,q,cs,d,z,hr⟩:=n;refine ⟨⟨fun k ob hk=>?_,fun k k' o o' b hk f l a B=>?_,fun b a=>?_,fun b a=>?_,h.n0,h.fr⟩,?_⟩
  · obtain ⟨l,hk⟩:=kbu id hk
    obtain ⟨h1,J,H⟩:=h.obj k ob hk;refine ⟨h1,J.keep Ext.refl (fun _ h=>h) (fun b a => .inl a) (fun _ _ _=>rfl) ⟨rfl,rfl⟩ (fun _ _=>rfl),fun b a=>⟨fun hs=>?_,(H b a).2⟩⟩;rcases hs with hs | hs
    · exact (H b a).1 hs
    · exact h.inj k id ob _ b hk G l a (.of hs)
  · obtain ⟨_,hk⟩:=kbu id hk
    obtain ⟨_,f⟩:=kbu id f;exact h.inj k k' o o' b hk f l a B
  · rcases a with a | a
    · exact h.lt b a
    · exact p.lt (.of a)
  · rcases a with a | a
    · exact h.s0 b a
    · exact (t b (.of a)).2.2
  · rcases d.2 with ⟨hv,C⟩ | ⟨g,cap,cur,hv,_,hh,D,r,K,E⟩
    · have:xs=[]:=qax C
      subst this;rw [hv];exact .lst (A:=none) (cap:=0) (xs:=[]) (fun _=>[]) rfl (qx _) (by omega) q (fun i x hx=>by simp at hx) (fun i x hx=>by simp at hx) (fun i x j v y hx=>by simp at hx)
    · rw [hv]
      have s:∀ i x,xs[i]?=some x->(i+1)*size<=cs.length:=fun i x hx=>(by rw [d.1];exact qau _ (qf.1 hx).1);refine .lst (fun i=>(cs.drop (i*size)).take size) rfl D (by unfold maxLen at r;exact r) q (fun i x hx=>⟨g,0,rfl, .inr (by rfl),fun j u m=>?_⟩) (fun i x hx=>?_) fun i x j v y hx c hy=>?_
      · rw [qaa] at m
        split at m
        · rw [qam,<- E,qaa] at m
          split at m
          · simp only [World.cell?,hh,qb4]
            simpa using m
          · cases m
        · cases m
      · have:=s i x hx
        rw [qa7] at this;exact ⟨by rw [qad,qa2];omega,z x (qj hx)⟩
      · rw [qaa] at c
        split at c
        · rw [qam] at c
          exact (hr i x j v y hx c hy).mono fun _ h => .inl h
        · cases c
end Go.Proofs.YtdnfbjahbkpibaaGreatDoor
set_option linter.all false
set_option linter.unusedSectionVars false
namespace Go.Proofs.YtdnfbjahbkpibaaGreatDoor
open Go Go.RowKit
variable [Dr]
def PCall (P:Program) (f:FuncId) (args:List FV) (r:FV):Prop:=
  (∃ fn, P.funcs[f]? = some fn /\ fn.body.isNone = false /\ (fn.name == "runtime.NumGoroutine") = false) /\
  ∀ (S:Nat->Prop) (w:World) (vs:Array Value),vs.size=args.length->(∀ (i:Nat) (v:Value) (x:FV),vs[i]?=some v->args[i]?=some x->RF S w v x) ->
    Calls P f vs w fun e w'=>∃ v,e = .returned v/\RF (fun b=>S b\/w.heap.size<=b) w' v r/\Grow w w'
def k3r (st:St) (c:C1) (x:Operand):Option FV:=match co1 c (st.eval x) with
  | .fz y=>some y
  | _=>none
def kmr (st:St):List C1->List Operand->Option (List FV)
  | [],[]=>some []
  | c::cs,x::xs=>match k3r st c x,kmr st cs xs with
    | some y,some ys=>some (y::ys)
    | _,_=>none
  | _,_=>none
variable {P:Program} {F S0:Nat->Prop} {N0:Nat} {w w':World} {S S':Nat->Prop} {ψ:Env} {K:Nat->Prop} {T:List (TypeId×TD)} {o:Oper} {a:Act} {st:St} {t:TypeId} {d:TD}
theorem kvi {ids:List Nat} (h:∀ t,RV ψ (·∈ids) S w (a.tmps.getD t undef) (st.get t)):∀ {cs:List C1} {xs:List Operand} {ys:List FV},kmr st cs xs=some ys ->
    ys.length=xs.length/\∀ (i:Nat) (x:Operand) (y:FV),xs[i]?=some x->ys[i]?=some y->RF S w (a.eval x) y
  | [],[],ys,h=>by simp only [kmr,qc] at h;subst h;exact ⟨rfl,fun i x y h=>by simp at h⟩
  | c::cs,x::xs,ys,hh=>by
    simp only [kmr] at hh;split at hh
    · rename_i y ys' h1 b
      injection hh with hh;subst hh;obtain ⟨e1,e2⟩:=kvi h b;refine ⟨by simp [e1],fun i x' y' hx hy=>?_⟩;cases i with
      | zero=>
        simp at hx hy;subst hx hy;unfold k3r at h1;have hv:=kov c (Sim.eval_tmps h x);split at h1
        · rename_i z d
          injection h1 with h1;subst h1;rw [d] at hv;exact hv.inv
        · cases h1
      | succ i=>exact e2 i x' y' (by simpa using hx) (by simpa using hy)
    · cases hh
  | [],_::_,ys,h=>by cases h
  | _::_,[],ys,h=>by cases h
theorem ku6 {f : FuncId} {args : Array Operand} {ts : Array TypeId} (e : o.op = .call { callee := .value (.func f), args := args, argTypes := ts }) (g : ∃ fn, P.funcs[f]? = some fn /\ fn.body.isNone = false /\ (fn.name == "runtime.NumGoroutine") = false) :
    (execOp a.eval o).run P w = .ok (.enter f (args.map a.eval)) w:=by
  obtain ⟨fn,h1,c,d⟩:=g;have b:fn.body≠none:=by intro h;rw [h] at c;cases c
  simp only [qas,ne_eq] at d;simp [execOp,e,resolve,Act.eval,Deferred.ofValue,invoke,callFunc,h1,b,d]
theorem k0e {f:FuncId} {args:Array Operand} {ts:Array TypeId} (cs:List C1) {ys:List FV} {r:FV} (b:o.op = .call { callee := .value (.func f),args:=args,argTypes:=ts }) (hc:kmr st cs args.toList=some ys) (hp:PCall P f ys r):NStep P o st (.fz r):=by
  intro ψ S a w ht d;obtain ⟨e1,e2⟩:=kvi ht hc;unfold kdf;rw [ku6 b hp.1];refine (hp.2 S w (args.map a.eval) (by simp [e1]) fun i v x hv hx=>?_).mono ?_
  · simp only [Array.getElem?_map,qq] at hv
    obtain ⟨y,hy,rfl⟩:=hv;exact e2 i y x (by simpa using hy) hx
  · rintro e w' ⟨v,rfl,h1,c⟩
    exact ⟨v,rfl,c, .fz h1⟩
def resX (T:List (TypeId×TD)) (st:St) (r:ResultVar) (c:C1):Option FV:=match r with
  | .tmp t=>match co1 c (st.get t) with
    | .fz y=>some y
    | _=>none
  | .cell x t=>match kad T t,kml st (st.get x) with
    | some d,some xs=>match kl5 d xs with
      | some z=>match co1 c z with
        | .fz y=>some y
        | _=>none
      | none=>none
    | _,_=>none
def kwp (T:List (TypeId×TD)) (st:St):List ResultVar->List C1->Option (List FV)
  | [],[]=>some []
  | r::rs,c::cs=>match resX T st r c,kwp T st rs cs with
    | some y,some ys=>some (y::ys)
    | _,_=>none
  | _,_=>none
def k9c (T:List (TypeId×TD)) (st:St) (rs:List ResultVar) (cs:List C1):Option FV:=match kwp T st rs cs with
  | some [y]=>some y
  | some ys=>some (.tup ys)
  | none=>none
def retX (T:List (TypeId×TD)) (st:St) (rs:List ResultVar) (cs:List C1):Option FV:=match st.dfr with
  | []=>k9c T st rs cs
  | _=>none
theorem k5v {T:List (TypeId×TD)} {st:St} {rs:List ResultVar} {cs:List C1} {y:FV} (h:retX T st rs cs=some y):st.dfr=[]/\k9c T st rs cs=some y:=by
  unfold retX at h;split at h
  · rename_i hd;exact ⟨hd,h⟩
  · cases h
theorem k76 {v:Value} {x:AV} {xs:List AV} {c:AV} (hd:TdOk P t d) (hv:RV ψ (·∈st.ids) S w v x) (n:∀ id o,kaa st.heap id=some o->ObR ψ (·∈st.ids) S w id o) (hx:kml st x=some xs) (hc:kl5 d xs=some c):
    ∃ ad u,v = .pointer (some ad)/\(loadVar t ad).run P w = .ok u w/\RV ψ (·∈st.ids) S w u c:=by
  obtain ⟨b,off,hv,cs,g,hl,h1,hr⟩:=ktg hv n hx;unfold kl5 at hc;cases hk:d.kind.agg with
  | false=>
    rw [hk] at hc;simp only [qd] at hc;cases xs with
    | nil=>cases hc
    | cons y ys=>
      simp only [List.head?_cons,qc] at hc;subst hc;have h:cs[0]?=some (cs[0]'(by simp at hl;omega)):=qb _;have e:w.cell? ⟨b,off,none⟩=some (cs[0]'(by simp at hl;omega)):=(by simpa using g 0 _ h);exact ⟨_,cs[0]'(by simp at hl;omega),hv,by simp [loadVar,hd.isAgg,hk,e],hr 0 _ y h rfl⟩
  | true=>
    rw [hk] at hc;simp only [qe] at hc;cases f:Nat.ble d.size xs.length with
    | false=>rw [f] at hc;cases hc
    | true=>
      rw [f] at hc;simp only [qe,qc] at hc;subst hc;have m:=qp f;have k:(cs.take d.size).length=d.size:=(by rw [qad];omega);have a:=run_loadCells_list (P:=P) w ⟨b,off,none⟩ (cs.take d.size) fun j v l=>by
        rw [qaa] at l;split at l
        · rw [kbg];exact g j v l
        · cases l
      rw [k] at a;refine ⟨_, .agg (cs.take d.size).toArray,hv,by simp [loadVar,hd.isAgg,hk,hd.size,a],RV.aggA (by simp [hl]) (fun x hx=>h1 x (qbl hx)) fun i v x hv hx=>?_⟩;simp only [qb6] at hv;rw [qaa] at hv hx;split at hv
      · rename_i hi;rw [qo hi] at hx;exact hr i v x hv hx
      · cases hv
def khr (tmps:Array Value):ResultVar->Sem Value
  | .tmp t=>pure (tmps.getD t undef)
  | .cell x t=>do loadVar t (<- asAddr (tmps.getD x undef))
theorem k5g (f:TOk P T) (hs:Sim F S0 N0 st ψ S a w):∀ {rs:List ResultVar} {cs:List C1} {ys:List FV},kwp T st rs cs=some ys ->
    ∃ vs:List Value,(rs.mapM (khr a.tmps)).run P w = .ok vs w/\vs.length=ys.length/\∀ (i:Nat) (v:Value) (y:FV),vs[i]?=some v->ys[i]?=some y->RF S w v y
  | [],[],ys,h=>by simp only [kwp,qc] at h;subst h;exact ⟨[],by simp,rfl,fun i v y h=>by simp at h⟩
  | r::rs,c::cs,ys,h=>by
    simp only [kwp] at h;split at h
    · rename_i y ys' h1 g
      injection h with h;subst h;obtain ⟨vs,k1,k2,k3⟩:=k5g f hs g;have key:∃ v,(khr a.tmps r).run P w = .ok v w/\RF S w v y:=by
        unfold resX at h1;split at h1
        · rename_i t
          have hv:=kov c (hs.tmps t);split at h1
          · rename_i z b
            injection h1 with h1;subst h1;rw [b] at hv;exact ⟨_,rfl,hv.inv⟩
          · cases h1
        · rename_i x t
          split at h1
          · rename_i d xs hd hx
            split at h1
            · rename_i z b
              obtain ⟨ad,u,e1,e2,e3⟩:=k76 (f.get hd) (hs.tmps x) (fun id o j=>(hs.core.obj id o j).2.1) hx b;have hv:=kov c e3;split at h1
              · rename_i z' e
                injection h1 with h1;subst h1;rw [e] at hv;refine ⟨u,?_,hv.inv⟩;simp only [khr,e1,asAddr,Sem.run_bind,Sem.run_pure,Result.andThen_ok,e2]
              · cases h1
            · cases h1
          · cases h1
      obtain ⟨v,e1,e2⟩:=key;refine ⟨v::vs,?_,by simp [k2],fun i v' y' hv hy=>?_⟩
      · rw [List.mapM_cons]
        simp only [Sem.run_bind,e1,Result.andThen_ok,k1,Sem.run_pure]
      · cases i with
        | zero=>simp at hv hy;subst hv hy;exact e2
        | succ i=>exact k3 i v' y' (by simpa using hv) (by simpa using hy)
    · cases h
  | [],_::_,ys,h=>by cases h
  | _::_,[],ys,h=>by cases h
theorem kail (d:TOk P T) (hs:Sim F S0 N0 st ψ S a w) {fn:Func} {cs:List C1} {y:FV} (h:retX T st fn.results.toList cs=some y):∃ v,(results fn a.tmps).run P w = .ok v w/\RF S w v y:=by
  replace h:=(k5v h).2;unfold k9c at h;have key:∀ ys,kwp T st fn.results.toList cs=some ys->∃ vs:List Value,(results fn a.tmps).run P w = .ok (if h:vs.length=1 then vs[0] else .tuple vs.toArray) w/\vs.length=ys.length/\∀ (i:Nat) (v:Value) (y:FV),vs[i]?=some v->ys[i]?=some y->RF S w v y:=fun ys hy=>by obtain ⟨vs,k1,k2,k3⟩:=k5g d hs hy;refine ⟨vs,?_,k2,k3⟩;unfold results;rw [Array.mapM_eq_mapM_toList];have b:∀ (g:ResultVar->Sem Value),(∀ x,g x=khr a.tmps x)->(fn.results.toList.mapM g).run P w = .ok vs w:=fun g b=>(by rw [show g=khr a.tmps from funext b];exact k1);simp only [Sem.run_bind,Sem.run_map];rw [b _ fun x=>by cases x <;> rfl];simp only [Result.andThen_ok,Sem.run_pure];simp
  split at h
  · rename_i z e
    injection h with h;subst h;obtain ⟨vs,k1,k2,k3⟩:=key _ e;have hl:vs.length=1:=(by simpa using k2);rw [dif_pos hl] at k1;exact ⟨_,k1,k3 0 _ _ (qb (by omega)) rfl⟩
  · rename_i ys c hy
    injection h with h;subst h;obtain ⟨vs,k1,k2,k3⟩:=key _ hy;have hl:¬ vs.length=1:=fun hl=>(by rw [k2] at hl;obtain ⟨z,rfl⟩:=List.length_eq_one_iff.1 hl;exact c z rfl);rw [dif_neg hl] at k1;exact ⟨_,k1, .tup (by simpa using k2) fun i v x hv hx=>k3 i v x (by simpa using hv) hx⟩
  · cases h
def ko7:Nat->List FV->List (Nat×AV)
  | _,[]=>[]
  | i,x::l=>(i, .fz x)::ko7 (i+1) l
def retQ (T:List (TypeId×TD)) (rs:List ResultVar) (cs:List C1) (r:FV):Exit->St->Prop
  | .normal,st=>retX T st rs cs=some r
  | .ret,st=>retX T st rs cs=some r
  | _,_=>False
theorem kzq:∀ (l:List FV) (i t:Nat),(look .any (ko7 i l) t = .any)\/∃ x,i<=t/\l[t - i]?=some x/\look .any (ko7 i l) t = .fz x
  | [],i,t => .inl rfl
  | x::l,i,t=>by
    simp only [ko7,kas];by_cases h:i=t
    · subst h
      exact .inr ⟨x,qx _,by simp,by simp⟩
    · rw [qi h]
      rcases kzq l (i+1) t with h1 | ⟨y,h1,a,b⟩
      · exact .inl h1
      · exact .inr ⟨y,by omega,by rw [show t - i=(t - (i+1))+1 by omega];simpa using a,b⟩
theorem k6z (s : TOk P T) {f : FuncId} {fn : Func} {c : Code} {args : List FV} {r : FV} (cs : List C1) (q : P.funcs[f]? = some fn) (a : fn.body = some c) (hn : (fn.name == "runtime.NumGoroutine") = false) (j : Nat.ble args.length fn.ntmps = true)
    (h:awp P c { n:=fn.ntmps,tmps:=ko7 0 args,heap:=[],ids:=[] } (retQ T fn.results.toList cs r)):PCall P f args r:=by
  have j:=qp j;refine ⟨⟨fn,q,by rw [a];rfl,hn⟩,fun S w vs hs hr=>calls_of_wp q a (wp_wide.1 ?_)⟩;have l:Sim (fun b=>b<w.heap.size) S w.heap.size { n:=fn.ntmps,tmps:=ko7 0 args,heap:=[],ids:=[] } ⟨fun _=>0,fun _=>undef⟩ (fun b=>S b/\b<w.heap.size) { tmps:=vs++Array.replicate (fn.ntmps - vs.size) undef,defers:=[] } w:=by
    refine ⟨rfl,by simp;omega,fun t=>?_,⟨(fun id o p=>nomatch p),(fun id id' o o' b p=>nomatch p),fun b a=>a.2,fun b a => .inl a.1,qx _,fun b a=>a⟩⟩;show RV _ _ _ w _ (look .any (ko7 0 args) t);rcases kzq args 0 t with h | ⟨x,_,h1,m⟩
    · rw [h];exact .any
    · rw [m]
      have d:t<vs.size:=(by rw [hs];have:=(qf.1 h1).1;omega);have:(vs++Array.replicate (fn.ntmps - vs.size) undef).getD t undef=vs[t]:=(by rw [qaq,qa9 d];simp [d]);rw [this];exact .fz (hr t _ x (by simp [d]) (by simpa using h1)).bound
  refine kb8 (h _ _ _ _ _ _ w l) ?_;rintro e a' w' ⟨st',ψ',S',g,m,i⟩;have fin:retX T st' fn.results.toList cs=some r->a'.defers=[]/\∃ v,(results fn a'.tmps).run P w' = .ok v w'/\∃ v',Ending.returned v = .returned v'/\RF (fun b=>S b\/w.heap.size<=b) w' v' r/\Grow w w':=fun g=>by obtain ⟨v,e1,e2⟩:=kail s m g;exact ⟨m.defers.trans (k5v g).1,v,e1,v,rfl,e2.mono m.core.s0,⟨⟨i.os,i.tape,i.output,i.size,fun k hk=>i.block k hk⟩,i.drawn⟩⟩
  cases e with
  | normal=>exact fin g
  | ret=>exact fin g
  | _=>exact g.elim
end Go.Proofs.YtdnfbjahbkpibaaGreatDoor
set_option linter.all false
namespace Go.Proofs.YtdnfbjahbkpibaaGreatDoor
open Go Go.RowKit
variable [Dr]
def hadd (fs:List (Nat×Option Nat×AV)) (p:Nat->Bool) (base:List (Nat×AV)):List (Nat×AV):=match fs with
  | []=>base
  | (j,some d,c)::l=>(d,bif p j then c else .any)::hadd l p base
  | (_,none,_)::l=>hadd l p base
def hst (st:St) (fs:List (Nat×Option Nat×AV)) (p:Nat->Bool):St:={ st with tmps:=hadd fs p st.tmps }
variable {P:Program} {F S0:Nat->Prop} {N0:Nat} {w w':World} {S S':Nat->Prop} {ψ:Env} {K:Nat->Prop} {o:Oper} {a:Act} {st:St}
theorem k0c (st:St) {ops:Array Oper} {g:Bool} (hs:∀ t,RV ψ K S w (a.tmps.getD t undef) (st.get t)) (h:kbr ops st o=some g):Region.wanted o (yielded ops a.tmps)=g:=by
  unfold kbr at h;unfold Region.wanted;split at h
  · rename_i e
    rw [e];injection h
  · rename_i j want e
    rw [e];split at h
    · rename_i t ht
      have hv:=hs t;split at h
      · rename_i b f
        rw [f] at hv;injection h with h;subst h;have c:a.tmps.getD t undef = .bool b:=hv.atom;rw [qaq] at c;have d:a.tmps[t]?=some (.bool b):=by
          cases d:a.tmps[t]? with
          | none=>rw [d] at c;cases c
          | some u=>rw [d] at c;simp only [qbe] at c;rw [c]
        simp only [yielded,ht,qa,d];cases b <;> cases want <;> rfl
      · rename_i xs f
        rw [f] at hv;injection h with h;subst h;exact kxg hv.inv ht
      · cases h
    · cases h
theorem knu {a:Act} (d:Option Nat) {v:Value} (n t:Nat) (hn:a.tmps.size=n) (hd:∀ t,d=some t->t<n):(a.put d v).tmps.getD t undef=if d=some t then v else a.tmps.getD t undef:=by
  cases d with
  | none=>simp [Act.put]
  | some d=>
    have b:=hd d rfl;by_cases h:d=t
    · subst h
      simp [Act.put,hn,b]
    · rw [qi (by simpa using h)]
      simp only [Act.put];rw [qaq,Array.getElem?_setIfInBounds_ne h,<- qaq]
end Go.Proofs.YtdnfbjahbkpibaaGreatDoor
set_option linter.all false
namespace Go.Proofs.YtdnfbjahbkpibaaGreatDoor
open Go Go.RowKit
variable [Dr]
abbrev w64 (n:Int):Int:=IntKind.i64.wrap n
abbrev wu8 (n:Int):Int:=IntKind.u8.wrap n
def eB (b:Bool):FV := .atom (.bool b)
def eS (s:BA):FV := .atom (.string s)
def eI (n:Int):FV := .atom (.int .i64 n)
def eU8 (n:Int):FV := .atom (.int .u8 n)
def eL {α:Type} (size:Nat) (e:α->FV) (xs:List α):FV := .lst size xs.length (xs.map e)
def idx {α:Type} (xs:List α) (i:Int):Option α:=if 0<=i then xs[i.toNat]? else none
def byt (s:BA) (i:Int):Option Int:=if 0<=i then (s[i.toNat]?).map fun c=>(c.toNat:Int) else none
def app {α:Type} (bytes:Nat) (xs ys:List α):Option (List α):=if (xs.length+ys.length)*(bytes+1)<=140737488355328 then some (xs++ys) else none
def cat (s u:BA):Option BA:=if s.size+u.size<=9223372036854775807 then some (s++u) else none
variable {P:Program} {T:List (TypeId×TD)} {o:Oper} {st:St} {t:TypeId} {d:TD}
theorem kql {α:Type} {xs:List α} {i:Int} {x:α} (h:idx xs i=some x):0<=i/\xs[i.toNat]?=some x:=by
  unfold idx at h;split at h
  · exact ⟨by assumption,h⟩
  · cases h
theorem kahe {α:Type} (enc:α->FV) {xs:List α} {i:Int} {x:α} {X Y:Operand} {e:TypeId} {de:TD} {k:IntKind} {cs:List FV} (h:idx xs i=some x) (c:TOk P T) (f:o.op = .indexAddr t X Y) (hd:kad T t=some d) (hk:d.kind = .slice e) (b:kad T e=some de) (hx:klu (st.eval X)=some (xs.map enc)) (a:∀ x,(enc x).cells.length=de.size) (hy:st.eval Y = .fz (.atom (.int k i))) (hc:(enc x).cells=cs):NStep P o st (.fz (.fp cs)):=by
  obtain ⟨h0,h1⟩:=kql h;refine k7x f (c.get hd) hk (c.get b) hx (fun z g=>?_) hy h0 (z:=enc x) (by rw [qn,h1];rfl) hc;obtain ⟨y,_,rfl⟩:=qai.1 g;exact a y
theorem kalk {s:BA} {i c:Int} {X Y:Operand} {k:IntKind} (h:byt s i=some c) (a:TOk P T) (e:o.op = .index t X Y) (hd:kad T t=some d) (hk:d.kind = .str) (hx:st.eval X = .fz (.atom (.string s))) (hy:st.eval Y = .fz (.atom (.int k i))):
    NStep P o st (.fz (.atom (.int .u8 c))):=by
  unfold byt at h;split at h
  · rename_i h0
    simp only [qq] at h;obtain ⟨b,f,rfl⟩:=h;exact kacv e (a.get hd) hk hx hy h0 f
  · cases h
theorem kagr (s u:BA) {r:BA} (X Y:Operand) (yt:TypeId) (h:cat s u=some r) (a:o.op = .binOp .add t X Y yt:=by kernel_rfl) (hx:st.eval X = .fz (.atom (.string s)):=by kernel_rfl) (hy:st.eval Y = .fz (.atom (.string u)):=by kernel_rfl):NStep P o st (.fz (.atom (.string r))):=by
  unfold cat at h;split at h
  · injection h with h
    subst h;exact kafj a hx hy (by assumption)
  · cases h
theorem kafn {α:Type} {bytes:Nat} {xs ys r:List α} (h:app bytes xs ys=some r):r=xs++ys/\(xs.length+ys.length)*(bytes+1)<=140737488355328:=by
  unfold app at h;split at h
  · injection h with h;exact ⟨h.symm,by assumption⟩
  · cases h
theorem k4m {α:Type} (enc:α->FV) {bytes:Nat} {xs ys r:List α} {X Y:Operand} {e:TypeId} {de:TD} {n m id:Nat} (h:app bytes xs ys=some r) (i:TOk P T) (j:o.op = .call { callee := .builtin .append,args:=#[X,Y],argTypes:=#[t,t] }) (hd:kad T t=some d) (hk:d.kind = .slice e) (b:kad T e=some de) (k:Nat.ble 1 de.size=true) (c:de.zero.length=de.size) (f:de.bytes=bytes) (hx:st.eval X = .row id n) (g:kaa st.heap id=some (.frow e de.size (xs.map enc))) (hn:n=xs.length) (hy:st.eval Y = .fz (.lst de.size m (ys.map enc))\/st.eval Y = .lim de.size m (ys.map enc)):
    StepA P o st (.row id r.length) ((id, .frow e de.size (r.map enc))::st.heap) st.ids:=by
  obtain ⟨rfl,a⟩:=kafn h;subst f;have:=kaef (id:=id) (d:=d) (t:=t) (st:=st) (o:=o) (P:=P) (xs.map enc) (ys.map enc) j (i.get hd) hk (i.get b) (qp k) c hx g (by rw [hn];simp) hy (by simpa using a);rw [<- List.map_append,qt] at this;exact this
theorem kid (t id n:Nat) (e:TypeId) (size:Nat) (xs:List FV) (hx:st.get t = .row id n:=by kernel_rfl) (d:kaa st.heap id=some (.frow e size xs):=by kernel_rfl) (hn:n=xs.length:=by simp):
    LeSt st { st with tmps:=(t, .fz (.lst size n xs))::st.tmps,heap:=ka6 id st.heap }:=by
  subst hn;intro F S0 N0 ψ S a w hs;obtain ⟨c1,c2⟩:=klz hs.core d;have c:∀ k,RV ψ (·∈st.ids) (fun b=>S b\/kak (ψ.val id)=some b) w (a.tmps.getD k undef) (st.get k):=fun k=>(hs.tmps k).mono (fun _ h=>h) fun _ h => .inl h;refine ⟨ψ,_,hs.defers,hs.size,fun k=>?_,c1⟩;simp only [St.get,kas];split
  · rename_i hk
    subst hk;have hv:=c t;rw [hx] at hv;have h0:=(hs.core.obj id _ d).2.1.1;refine .fz ?_;generalize a.tmps.getD t undef=u at hv;cases hv with
    | row hK f h1 hv=>rw [hv (by rw [h0])];exact c2
  · exact c k
theorem kj3 (id2 id n j:Nat) (e:TypeId) (size:Nat) (xs:List FV) (e2:TypeId) (cells:List AV) (d:kaa st.heap id2=some (.box e2 cells):=by kernel_rfl) (hx:cells[j]?=some (.row id n):=by kernel_rfl) (l:kaa st.heap id=some (.frow e size xs):=by kernel_rfl) (hn:n=xs.length:=by simp):
    LeSt st { st with heap:=(id2, .box e2 (cells.set j (.fz (.lst size n xs))))::ka6 id st.heap }:=by
  subst hn;intro F S0 N0 ψ S a w hs;obtain ⟨c1,c2⟩:=klz hs.core l;have q:id2≠id:=fun h=>by rw [h,l] at d;cases d
  have p:kaa (ka6 id st.heap) id2=some (.box e2 cells):=knk q d;obtain ⟨k1,⟨k0,b,cs,k2,k3,k4,k5,k6⟩,k7⟩:=c1.obj id2 _ p;refine ⟨ψ,_,hs.defers,hs.size,fun k=>(hs.tmps k).mono (fun _ h=>h) fun _ h => .inl h,⟨fun i o g=>?_,fun i i' o o' b g r m u=>?_,c1.lt,c1.s0,c1.n0,c1.fr⟩⟩
  · rw [kac] at g
    by_cases hi:id2=i
    · subst hi
      rw [qo rfl] at g;injection g with g;subst g;refine ⟨k1,⟨k0,b,cs,k2,k3,by simpa using k4,fun x hx=>?_,fun i v x hv c=>?_⟩,k7⟩
      · rcases List.mem_or_eq_of_mem_set hx with hx | rfl
        · exact k5 x hx
        · rfl
      · rw [List.getElem?_set] at c
        split at c
        · rename_i s
          subst s;split at c
          · injection c with c
            subst c;have t:=k6 j v _ hv hx;have h0:=(hs.core.obj id _ l).2.1.1;refine .fz ?_;cases t with
            | row hK y h1 hv=>rw [hv (by rw [h0])];exact c2
          · cases c
        · exact k6 i v x hv c
    · rw [qi hi] at g
      exact c1.obj i o g
  · have f:∀ {i:Nat} {o:AObj},kaa ((id2,AObj.box e2 (cells.set j (.fz (.lst size xs.length xs))))::ka6 id st.heap) i=some o->∃ o',kaa (ka6 id st.heap) i=some o':=fun {i o} h=>by
      rw [kac] at h;by_cases hi:id2=i
      · subst hi;exact ⟨_,p⟩
      · rw [qi hi] at h;exact ⟨_,h⟩
    obtain ⟨o1,h1⟩:=f g;obtain ⟨o2,p⟩:=f r;exact c1.inj i i' o1 o2 b h1 p m u
theorem kik (e e2:TypeId) (size id2 j id:Nat) (cells:List AV) (u:Nat.ble 1 size=true:=by kernel_rfl) (l:kaa st.heap id2=some (.box e2 cells):=by kernel_rfl) (hx:cells[j]?=some (.fz (.atom (.slice none 0 0))):=by kernel_rfl) (d:st.ids.contains id=false:=by kernel_rfl):
    LeSt st { st with heap:=(id2, .box e2 (cells.set j (.row id 0)))::(id, .frow e size [])::st.heap,ids:=id::st.ids }:=by
  have d:id∉st.ids:=by simpa using d
  intro F S0 N0 ψ S a w hs;have hadd:=hs.core.add (n:=0) (v := .slice none 0 0) (w':=w) (ob := .frow e size []) (kaf _) d (fun b q=>by cases q) ⟨kbh _ _,qp u,[],by rw [kaj];exact ⟨by simp, .inl ⟨rfl,rfl⟩⟩,(fun x hx=>by cases hx),fun i x j v y h=>by simp at h⟩;have r:id≠id2:=fun h=>d (by rw [h];exact (hs.core.obj id2 _ l).1);have p:kaa ((id, .frow e size [])::st.heap) id2=some (.box e2 cells):=by rw [kac,qi r];exact l
  obtain ⟨k1,⟨k0,b,cs,k2,k3,k4,k5,k6⟩,k7⟩:=hadd.obj id2 _ p;refine ⟨ψ.set id 0 (.slice none 0 0),S,hs.defers,hs.size,fun k=>(hs.tmps k).keep (ka4 d _ _) (fun _ h=>qh _ h) (fun _ h=>h) (fun _ _ _=>rfl),⟨fun i o g=>?_,fun i i' o o' b g s m q=>?_,hadd.lt,hadd.s0,hadd.n0,hadd.fr⟩⟩
  · rw [kac] at g
    by_cases hi:id2=i
    · subst hi
      rw [qo rfl] at g;injection g with g;subst g;refine ⟨k1,⟨k0,b,cs,k2,k3,by simpa using k4,fun x hx=>?_,fun i v x hv c=>?_⟩,k7⟩
      · rcases List.mem_or_eq_of_mem_set hx with hx | rfl
        · exact k5 x hx
        · rfl
      · rw [List.getElem?_set] at c
        split at c
        · rename_i t
          subst t;split at c
          · injection c with c
            subst c;rw [(k6 j v _ hv hx).atom];exact .row (qv ..) (qak _) rfl fun _=>(kaj _ _).symm
          · cases c
        · exact k6 i v x hv c
    · rw [qi hi] at g
      exact hadd.obj i o g
  · have f:∀ {i:Nat} {o:AObj},kaa ((id2,AObj.box e2 (cells.set j (.row id 0)))::(id, .frow e size [])::st.heap) i=some o->∃ o',kaa ((id, .frow e size [])::st.heap) i=some o':=fun {i o} h=>by
      rw [kac] at h;by_cases hi:id2=i
      · subst hi;exact ⟨_,p⟩
      · rw [qi hi] at h;exact ⟨_,h⟩
    obtain ⟨o1,h1⟩:=f g;obtain ⟨o2,p⟩:=f s;exact hadd.inj i i' o1 o2 b h1 p m q
theorem LeSt.refl:LeSt st st:=fun F S0 N0 ψ S a w h=>⟨ψ,S,h⟩
theorem LeSt.trans {st' st'':St} (h:LeSt st st') (k:LeSt st' st''):LeSt st st'':=fun F S0 N0 ψ S a w hs=>by obtain ⟨ψ',S',b⟩:=h F S0 N0 ψ S a w hs;exact k F S0 N0 ψ' S' a w b
theorem NStep.eqv {c c':AV} (h:NStep P o st c) (e:c=c'):NStep P o st c':=e ▸ h
theorem ktu [Rd] {c:Code} {Q:Exit->St->Prop} (h:awp P c st fun e st'=>∃ st2,LeSt st' st2/\Q e st2):awp P c st Q:=fun F S0 N0 ψ S a w hs=>
  kb8 (h F S0 N0 ψ S a w hs) fun e a' w' ⟨st',ψ',S',⟨st2,h0,h1⟩,b,d⟩=>by obtain ⟨ψ2,S2,f⟩:=h0 F S0 N0 ψ' S' a' w' b;exact ⟨st2,ψ2,S2,h1,f,d⟩
theorem k4e [Rd] {c:Code} {Qa Q:Exit->St->Prop} (ha:awp P c st Qa) (a:∀ e st',Qa e st'->∃ st2,LeSt st' st2/\Q e st2):awp P c st Q:=ktu (kt3 ha a)
theorem k3f (t:Nat) (x y:AV) (h:x=y) (hx:st.get t=x:=by kernel_rfl):LeSt st (st.put (some t) y):=by
  subst h;intro F S0 N0 ψ S a w hs;refine ⟨ψ,S,hs.defers,hs.size,fun k=>?_,hs.core⟩;simp only [St.put,St.get,kas];split
  · rename_i hk;subst hk;rw [<- hx];exact hs.tmps t
  · exact hs.tmps k
theorem kaap [Rd] {σ β:Type} {step:σ->Option (σ ⊕ β)} (body:Code) (stOf:σ->St) {s0:σ} {b:β} {n:Nat} (Qb:β->Exit->St->Prop) (hl:kab step n s0=some b) (h0:LeSt st (stOf s0)) (hr:∀ s r,step s=some r->awp P body (stOf s) fun e st=>match r with | .inl s'=>e = .normal/\LeSt st (stOf s') | .inr b'=>(e ≠ .normal/\e ≠ .outgrown)/\Qb b' e st):awp P (.loop body) st (Qb b):=by
  exact kae6 stOf hl h0 (fun s s' hs=>hr s _ hs) fun s hs=>kt3 (hr s _ hs) fun e st h=>⟨h.1.1,h.1.2,h.2⟩
end Go.Proofs.YtdnfbjahbkpibaaGreatDoor
