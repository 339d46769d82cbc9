import Derived.Test.YtjbonbdomgoklaaGreatDoorSim
import Derived.Laws.CopyRow
import Derived.Laws.Rows
import Derived.Great.FillDense
set_option linter.all false
namespace Go.Proofs.YtjbonbdomgoklaaGreatDoor
open Go Go.RowKit
inductive TK where
  | bool
  | int (k:IntKind)
  | str
  | ptr (e:TypeId)
  | slice (e:TypeId)
  | map (k e:TypeId)
  | fn
  | ifc
  | arr (n:Nat) (e:TypeId)
  | st (fs:List (TypeId×Nat))
structure TD where
  size:Nat
  bytes:Nat
  kind:TK
  zero:List Value
def TK.agg:TK->Bool
  | .arr _ _=>true
  | .st _=>true
  | _=>false
def kic:TypeDesc->TK->Prop
  | .bool, .bool=>True
  | .int k, .int k'=>k=k'
  | .string, .str=>True
  | .pointer e, .ptr e'=>e=e'
  | .slice e, .slice e'=>e=e'
  | .map k e, .map k' e'=>k=k'/\e=e'
  | .func _ _ _, .fn=>True
  | .interface _, .ifc=>True
  | .array n e, .arr n' e'=>n=n'/\e=e'
  | .struct fs, .st gs=>fs.toList.map (fun f=>(f.type,f.offset))=gs
  | _,_=>False
def TdOk (P:Program) (t:TypeId) (d:TD):Prop:=
  (∃ i z,P.info? t=some i/\i.size=d.size/\i.bytes=d.bytes/\i.zero=some z/\z.cells.toList=d.zero)/\∃ e,P.underlying t=some e/\kic e d.kind
def kag:List (TypeId×TD)->TypeId->Option TD
  | [],_=>none
  | (k,v)::l,t=>bif Nat.beq k t then some v else kag l t
def TOk (P:Program) (T:List (TypeId×TD)):Prop:=∀ p∈T,TdOk P p.1 p.2
theorem TOk.get {P:Program} {T:List (TypeId×TD)} (h:TOk P T) {t:TypeId} {d:TD} (ht:kag T t=some d):TdOk P t d:=by
  induction T with
  | nil=>cases ht
  | cons p l ih=>
    obtain ⟨k,v⟩:=p;simp only [kag] at ht;by_cases hk:k=t
    · subst hk
      simp only [Nat.beq_refl,qd,qe] at ht;subst ht;exact h _ (qo ..)
    · rw [Nat.beq_eq_false hk] at ht
      exact ih (fun p hp=>h p (qk _ hp)) ht
def kOf:TypeDesc->Option TK
  | .bool=>some .bool
  | .int k=>some (.int k)
  | .string=>some .str
  | .pointer e=>some (.ptr e)
  | .slice e=>some (.slice e)
  | .map k e=>some (.map k e)
  | .func _ _ _=>some .fn
  | .interface _=>some .ifc
  | .array n e=>some (.arr n e)
  | .struct fs=>some (.st (fs.toList.map (fun f=>(f.type,f.offset))))
  | _=>none
theorem kak3 {e:TypeDesc} {k:TK} (h:kOf e=some k):kic e k:=by cases e <;> first | (injection h with h;subst h;simp [kic]) | cases h
def tdOf (P:Program) (t:TypeId):Option TD:=match P.info? t,P.underlying t with
  | some i,some e=>match i.zero,kOf e with
    | some z,some k=>some ⟨i.size,i.bytes,k,z.cells.toList⟩
    | _,_=>none
  | _,_=>none
theorem kai7 {P:Program} {t:TypeId} {d:TD} (h:tdOf P t=some d):TdOk P t d:=by
  unfold tdOf at h;split at h
  · rename_i i e hi a
    split at h
    · rename_i z k b hk
      injection h with h;subst h;exact ⟨⟨i,z,hi,rfl,rfl,b,rfl⟩,e,a,kak3 hk⟩
    · cases h
  · cases h
theorem kaco {P:Program}:∀ {T:List (TypeId×TD)},T.map (fun p=>tdOf P p.1)=T.map (fun p=>some p.2)->TOk P T
  | [],_=>fun p hp=>by cases hp
  | x::l,h=>by
    simp only [qa2,List.cons.injEq] at h;intro p hp;rcases qan.1 hp with rfl | hp
    · exact kai7 h.1
    · exact kaco h.2 p hp
def intV (k:IntKind) (op:BinOp) (a b:Int):Option Value:=match op with
  | .add=>some (.int k (k.wrap (a+b)))
  | .sub=>some (.int k (k.wrap (a - b)))
  | .mul=>some (.int k (k.wrap (a*b)))
  | .quo=>if b=0 then none else some (.int k (k.wrap (a.tdiv b)))
  | .rem=>if b=0 then none else some (.int k (a.tmod b))
  | .and=>some (.int k (k.wrap (BitVec.ofInt k.bits a &&& BitVec.ofInt k.bits b).toNat))
  | .or=>some (.int k (k.wrap (BitVec.ofInt k.bits a ||| BitVec.ofInt k.bits b).toNat))
  | .xor=>some (.int k (k.wrap (BitVec.ofInt k.bits a ^^^ BitVec.ofInt k.bits b).toNat))
  | .andNot=>some (.int k (k.wrap (BitVec.ofInt k.bits a &&& ~~~BitVec.ofInt k.bits b).toNat))
  | .eql=>some (.bool (a == b))
  | .neq=>some (.bool (a != b))
  | .lss=>some (.bool (decide (a<b)))
  | .leq=>some (.bool (decide (a<=b)))
  | .gtr=>some (.bool (decide (b<a)))
  | .geq=>some (.bool (decide (b<=a)))
  | _=>none
def shV (k:IntKind) (op:BinOp) (a b:Int):Option Value:=match op with
  | .shl=>if b<0 then none else some (.int k (k.wrap (a*2 ^ (min b.toNat k.bits))))
  | .shr=>if b<0 then none else some (.int k (a.fdiv (2 ^ (min b.toNat k.bits))))
  | _=>none
def strV (op:BinOp) (x y:BA):Option Value:=match op with
  | .eql=>some (.bool (x.toList == y.toList))
  | .neq=>some (.bool !(x.toList == y.toList))
  | .lss=>some (.bool (Op.bytesLess x.toList y.toList))
  | .leq=>some (.bool (Op.bytesLess x.toList y.toList || x.toList == y.toList))
  | .gtr=>some (.bool !(Op.bytesLess x.toList y.toList || x.toList == y.toList))
  | .geq=>some (.bool !(Op.bytesLess x.toList y.toList))
  | _=>none
def binV (bt:Bool) (op:BinOp):Value->Value->Option Value
  | .int k a, .int k' b=>match op with
    | .shl=>shV k .shl a b
    | .shr=>shV k .shr a b
    | op=>if k=k' then intV k op a b else none
  | .string x, .string y=>strV op x y
  | .bool x, .bool y=>match bt,op with
    | true, .eql=>some (.bool (x == y))
    | true, .neq=>some (.bool (!(x == y)))
    | _,_=>none
  | _,_=>none
def unV (op:UnOp):Value->Option Value
  | .int k n=>match op with
    | .neg=>some (.int k (k.wrap (0 - n)))
    | .xor=>some (.int k (k.wrap (BitVec.ofInt k.bits (if k.signed then -1 else k.max) ^^^ BitVec.ofInt k.bits n).toNat))
    | _=>none
  | .bool b=>match op with
    | .not=>some (.bool !b)
    | _=>none
  | _=>none
variable {P:Program} {w w':World} {S S':Nat->Prop} {ψ:Env} {K:Nat->Prop} {T:List (TypeId×TD)} {o:Oper} {a:Act} {st:St}
theorem kac6 {op:BinOp} {t:TypeId} {k:IntKind} {a b:Int} {v:Value} (hs:op ≠ .shl/\op ≠ .shr) (h:intV k op a b=some v):(binOp op t (.int k a) (.int k b)).run P w = .ok v w:=by
  cases op <;> simp only [intV] at h <;> first
    | exact absurd rfl hs.1
    | exact absurd rfl hs.2
    | (injection h with h;subst h;simp only [binOp,ne_eq,not_true_eq_false,if_false];rfl)
    | (split at h
       · cases h
       · rename_i c
         injection h with h;subst h;simp only [binOp,ne_eq,not_true_eq_false,if_false,Op.intDiv,qi c];rfl)
theorem k5x {op:BinOp} {t:TypeId} {k k':IntKind} {a b:Int} {v:Value} (hs:op = .shl\/op = .shr) (h:shV k op a b=some v):(binOp op t (.int k a) (.int k' b)).run P w = .ok v w:=by
  rcases hs with rfl | rfl <;> simp only [shV] at h <;>
    (split at h
     · cases h
     · rename_i c
       injection h with h;subst h;simp only [binOp,Op.shift,qi c];rfl)
theorem kac7 {op:BinOp} {t:TypeId} {x y:BA} {v:Value} (h:strV op x y=some v):(binOp op t (.string x) (.string y)).run P w = .ok v w:=by
  cases op <;> simp only [strV] at h <;> first
    | (injection h with h;subst h;rfl)
    | cases h
theorem kad6 {bt:Bool} {op:BinOp} {t:TypeId} {x y v:Value} (e:bt=true->P.underlying t=some .bool) (h:binV bt op x y=some v):(binOp op t x y).run P w = .ok v w:=by
  cases x <;> cases y <;> simp only [binV] at h <;> try cases h
  case int.int k a k' b=>
    by_cases h1:op = .shl
    · subst h1;exact k5x (.inl rfl) h
    by_cases c:op = .shr
    · subst c;exact k5x (.inr rfl) h
    have d:(if k=k' then intV k op a b else none)=some v:=by cases op <;> first | exact h | exact absurd rfl h1 | exact absurd rfl c
    split at d
    · rename_i hk
      subst hk;exact kac6 ⟨h1,c⟩ d
    · cases d
  case string.string x y=>exact kac7 h
  case bool.bool x y=>
    cases bt with
    | false=>cases h
    | true=>
      have hu:=e rfl;have f:(Op.equal t (.bool x) (.bool y)).run P w = .ok (x == y) w:=(by unfold Op.equal;rw [show Op.maxDepth=9999+1 from rfl,Op.equalIn,Sem.run_bind,run_underlying hu,Result.andThen_ok];rfl);cases op <;> simp only at h <;> first
        | (injection h with h;subst h;simp only [binOp,Sem.run_bind,f,Result.andThen_ok];rfl)
        | cases h
theorem kahv {op:UnOp} {x v:Value} (h:unV op x=some v):(Op.unary op x).run P w = .ok v w:=by
  cases x <;> simp only [unV] at h <;> try cases h
  case int k n=>cases op <;> simp at h <;> (subst h;simp [Op.unary,Op.intArith,Op.intBits])
  case bool b=>cases op <;> simp at h <;> (subst h;simp [Op.unary])
theorem kafb {bt:Bool} {op:BinOp} {x y v:Value} (h:binV bt op x y=some v):v.oneCell'=true:=by
  cases x <;> cases y <;> simp only [binV] at h <;> try cases h
  case int.int k a k' b=>
    cases op <;> simp only [shV,intV] at h <;> (repeat' split at h) <;> first
      | (injection h with h;subst h;rfl)
      | cases h
  case string.string x y=>cases op <;> simp only [strV] at h <;> first | (injection h with h;subst h;rfl) | cases h
  case bool.bool x y=>cases bt <;> cases op <;> first | (injection h with h;subst h;rfl) | cases h
theorem kajh {op:UnOp} {x v:Value} (h:unV op x=some v):v.oneCell'=true:=by cases x <;> cases op <;> simp [unV] at h <;> (subst h;rfl)
theorem kah (w':World) {R:Value->World->Prop} (v:Value) (h:(execOp a.eval o).run P w = .ok (.value v) w') (hr:R v w'):kf9 P o a w R:=by unfold kf9;rw [h];exact hr
theorem kld (w':World) {R:Value->World->Prop} (h:(execOp a.eval o).run P w = .ok .skip w') (hr:R undef w'):kf9 P o a w R:=by unfold kf9;rw [h];exact hr
theorem RV.here {v:Value} {x:AV} (h:RV ψ K S w v x):RV ψ K (fun b=>S b\/w.heap.size<=b) w v x:=h.mono (fun _ h=>h) fun _ h => .inl h
def kahh:Value->Bool
  | .int ..=>true
  | .string _=>true
  | .bool _=>true
  | _=>false
theorem k4g {op:BinOp} {t:TypeId} {x y:Operand} {u v:Value} (hu:kahh u=true):(eqGuard op t x y u v).run P w = .ok () w:=by unfold eqGuard;cases u <;> cases hu <;> cases op <;> simp
theorem kaad {bt:Bool} {op:BinOp} {u v r:Value} (h:binV bt op u v=some r):kahh u=true:=by cases u <;> cases v <;> first | rfl | cases h
theorem kabf {op:BinOp} {t yt:TypeId} {x y:Operand} {u v r:Value} (bt:Bool) (c:bt=true->P.underlying t=some .bool) (ho:o.op = .binOp op t x y yt) (d:st.eval x = .fz (.atom u)) (hy:st.eval y = .fz (.atom v)) (h:binV bt op u v=some r):NStep P o st (.fz (.atom r)):=by intro ψ S a w ht _;have h1:=Sim.eval_tmps ht x;have b:=Sim.eval_tmps ht y;rw [d] at h1;rw [hy] at b;refine kah w r ?_ ⟨kaj _, .fz (.atom (kafb h))⟩;simp [execOp,ho,h1.atom,b.atom,kad6 c h,k4g (kaad h)]
theorem n_un {op:UnOp} {t:TypeId} {x:Operand} {u r:Value} (ho:o.op = .unOp op t x) (b:st.eval x = .fz (.atom u)) (h:unV op u=some r):NStep P o st (.fz (.atom r)):=by intro ψ S a w ht _;have h1:=Sim.eval_tmps ht x;rw [b] at h1;refine kah w r ?_ ⟨kaj _, .fz (.atom (kajh h))⟩;simp [execOp,ho,h1.atom,kahv h]
theorem k0v {x:Operand} (ho:o.op = .move x\/o.op = .assign x):NStep P o st (st.eval x):=by intro ψ S a w ht _;refine kah w (a.eval x) ?_ ⟨kaj _,(Sim.eval_tmps ht x).here⟩;rcases ho with ho | ho <;> simp [execOp,ho]
theorem kacz {c x y:Operand} {b:Bool} (ho:o.op = .pick c x y) (hc:st.eval c = .fz (.atom (.bool b))):NStep P o st (bif b then st.eval x else st.eval y):=by
  intro ψ S a w ht _;have h1:=Sim.eval_tmps ht c;rw [hc] at h1;refine kah w (bif b then a.eval x else a.eval y) ?_ ⟨kaj _,?_⟩
  · cases b <;> simp [execOp,ho,h1.atom,asBool]
  · cases b
    · exact (Sim.eval_tmps ht y).here
    · exact (Sim.eval_tmps ht x).here
def kpx:List AV->Option (List FV)
  | []=>some []
  | .fz x::l=>(kpx l).map (x::·)
  | _::_=>none
def aggA (xs:List AV):AV:=match kpx xs with
  | some ys => .fz (.agg ys)
  | none => .agg xs
def tupA (xs:List AV):AV:=match kpx xs with
  | some ys => .fz (.tup ys)
  | none => .tup xs
def koy (d:TD) (xs:List AV):Option AV:=bif d.kind.agg then (bif Nat.ble d.size xs.length then some (aggA (xs.take d.size)) else none) else xs.head?
def kpg (st:St):AV->Option (List AV)
  | .fz (.fp cs)=>some (cs.map .fz)
  | .ref id n off=>match kad st.heap id with
    | some (.box _ cells)=>bif Nat.beq n 0 then some (cells.drop off) else none
    | _=>none
  | _=>none
variable {t:TypeId} {d:TD}
theorem TdOk.size (h:TdOk P t d):(sizeOf t).run P w = .ok d.size w:=by obtain ⟨⟨i,z,h1,a,_⟩,_⟩:=h;simp [sizeOf,typeInfo,h1,a]
theorem TdOk.info (h:TdOk P t d):(P.info? t).map (·.size)=some d.size:=by obtain ⟨⟨i,z,h1,a,_⟩,_⟩:=h;simp [h1,a]
theorem TdOk.isAgg (h:TdOk P t d):(isAgg t).run P w = .ok d.kind.agg w:=by obtain ⟨_,e,h1,a⟩:=h;unfold Go.isAgg;rw [Sem.run_bind,run_underlying h1];cases e <;> cases hk:d.kind <;> simp [kic,hk,TK.agg] at a ⊢
theorem TdOk.zero (h:TdOk P t d):∃ z,(zeroValue t).run P w = .ok z w/\z.cells.toList=d.zero:=by obtain ⟨⟨i,z,h1,c,e,a,b⟩,_⟩:=h;exact ⟨z,by simp [zeroValue,typeInfo,h1,a],b⟩
theorem TdOk.strct {fs:List (TypeId×Nat)} (h:TdOk P t d) (hk:d.kind = .st fs):∃ gs:Array Field,(∀ w,(underlying t).run P w = .ok (.struct gs) w)/\gs.toList.map (fun f=>(f.type,f.offset))=fs:=by obtain ⟨_,e,h1,a⟩:=h;rw [hk] at a;cases e <;> simp [kic] at a;exact ⟨_,fun w=>run_underlying h1 w,a⟩
theorem TdOk.arr {n e:Nat} (h:TdOk P t d) (hk:d.kind = .arr n e):P.underlying t=some (.array n e):=by obtain ⟨_,e',h1,a⟩:=h;rw [hk] at a;cases e' <;> simp [kic] at a;rw [h1,a.1,a.2]
theorem TdOk.slice {e:Nat} (h:TdOk P t d) (hk:d.kind = .slice e):P.underlying t=some (.slice e):=by obtain ⟨_,e',h1,a⟩:=h;rw [hk] at a;cases e' <;> simp [kic] at a;rw [h1,a]
theorem TdOk.str (h:TdOk P t d) (hk:d.kind = .str):P.underlying t=some .string:=by obtain ⟨_,e',h1,a⟩:=h;rw [hk] at a;cases e' <;> simp [kic] at a;rw [h1]
theorem kpm:∀ {xs:List AV} {ys:List FV},kpx xs=some ys->xs=ys.map .fz
  | [],ys,h=>by simp [kpx] at h;subst h;rfl
  | .fz x::l,ys,h=>by simp only [kpx,qw] at h;obtain ⟨zs,a,rfl⟩:=h;rw [kpm a];rfl
theorem RV.aggA {cs:Array Value} {xs:List AV} (h:cs.size=xs.length) (h1:∀ x∈xs,x.single=true) (hr:∀ (i:Nat) (v:Value) (x:AV),cs[i]?=some v->xs[i]?=some x->RV ψ K S w v x):RV ψ K S w (.agg cs) (aggA xs):=by
  unfold Go.Proofs.YtjbonbdomgoklaaGreatDoor.aggA;cases hy:kpx xs with
  | none=>exact .agg h h1 hr
  | some ys=>
    have:=kpm hy;subst this;exact .fz (.agg (by simpa using h) (fun x a=>h1 (.fz x) (by simp [a])) fun i v x hv a=>(hr i v (.fz x) hv (by simp [a])).inv)
theorem RV.tupA {cs:Array Value} {xs:List AV} (h:cs.size=xs.length) (hr:∀ (i:Nat) (v:Value) (x:AV),cs[i]?=some v->xs[i]?=some x->RV ψ K S w v x):RV ψ K S w (.tuple cs) (tupA xs):=by
  unfold Go.Proofs.YtjbonbdomgoklaaGreatDoor.tupA;cases hy:kpx xs with
  | none=>exact .tup h hr
  | some ys=>
    have:=kpm hy;subst this;exact .fz (.tup (by simpa using h) fun i v x hv a=>(hr i v (.fz x) hv (by simp [a])).inv)
def kaaj (ψ:Env) (K S:Nat->Prop) (w:World) (b o:Nat) (xs:List AV):Prop:=
  ∃ cs:List Value,At w b o cs/\cs.length=xs.length/\(∀ x∈xs,x.single=true)/\∀ (i:Nat) (v:Value) (x:AV),cs[i]?=some v->xs[i]?=some x->RV ψ K S w v x
theorem kvt {v:Value} {x:AV} {xs:List AV} (hv:RV ψ (·∈st.ids) S w v x) (f:∀ id o,kad st.heap id=some o->ObR ψ (·∈st.ids) S w id o) (h:kpg st x=some xs):
    ∃ b o,v = .pointer (some ⟨b,o,none⟩)/\kaaj ψ (·∈st.ids) S w b o xs:=by
  cases x with
  | fz x=>
    cases x with
    | fp cs=>
      simp only [kpg,qe] at h;subst h;cases hv with
      | fz hv=>
        cases hv with
        | @fp b o _ vs hS ha hl h0 h1 hr=>
          refine ⟨b,o,rfl,vs,ha,by simpa using hl,fun x a=>?_,fun i v x hv a=>?_⟩
          · simp only [qaa] at a
            obtain ⟨y,hy,rfl⟩:=a;exact h1 y hy
          · simp only [qq,qw] at a
            obtain ⟨y,hy,rfl⟩:=a;exact .fz (hr i v y hv hy)
    | _=>cases h
  | ref id n off=>
    simp only [kpg] at h;split at h
    · rename_i e cells ho
      cases hn:Nat.beq n 0 with
      | false=>rw [hn] at h;cases h
      | true=>
        rw [hn] at h;simp only [qd,qe] at h;subst h;obtain rfl:=qm hn;obtain ⟨h0,b,cs,h1,g,k,l,m⟩:=f id _ ho;cases hv with
        | ref hK p q d=>
          obtain ⟨b',c,rfl⟩:=d h0.symm;rw [h1] at c;simp only [kau,qe] at c;subst c;refine ⟨b,off,rfl,cs.toList.drop off,fun j u hu=>?_,by simp [k],fun x a=>l x (qbo a),fun i v x hv a=>?_⟩
          · rw [qau] at hu
            simp only [World.cell?,g];simpa using hu
          · rw [qau] at hv a
            exact m _ v x (by simpa using hv) a
    · cases h
  | _=>cases h
theorem kalt {x:Operand} {xs:List AV} {c:AV} (ho:o.op = .load t x) (p:TdOk P t d) (f:kpg st (st.eval x)=some xs) (hc:koy d xs=some c):NStep P o st c:=by
  intro ψ S a w ht r;obtain ⟨b,off,hv,cs,k,hl,h1,hr⟩:=kvt (Sim.eval_tmps ht x) r f;unfold koy at hc;cases hk:d.kind.agg with
  | false=>
    rw [hk] at hc;simp only [qc] at hc;cases xs with
    | nil=>cases hc
    | cons y ys=>
      simp only [List.head?_cons,qe] at hc;subst hc;have l:cs[0]?=some (cs[0]'(by simp at hl;omega)):=qb _;have g:w.cell? ⟨b,off,none⟩=some (cs[0]'(by simp at hl;omega)):=(by simpa using k 0 _ l);refine kah w (cs[0]'(by simp at hl;omega)) ?_ ⟨kaj _,(hr 0 _ y l rfl).here⟩;simp [execOp,ho,hv,Instr.loadAt,Instr.sureAddr,loadVar,p.isAgg,hk,g]
  | true=>
    rw [hk] at hc;simp only [qd] at hc;cases h:Nat.ble d.size xs.length with
    | false=>rw [h] at hc;cases hc
    | true=>
      rw [h] at hc;simp only [qd,qe] at hc;subst hc;have q:=qu h;have m:(cs.take d.size).length=d.size:=(by rw [qam];omega);have e:=run_loadCells_list (P:=P) w ⟨b,off,none⟩ (cs.take d.size) fun j v n=>by
        rw [qad] at n;split at n
        · have:=k j v n
          simp only [Addr.add];split
          · rename_i h0;subst h0;simpa using this
          · exact this
        · cases n
      rw [m] at e;refine kah w (.agg (cs.take d.size).toArray) ?_ ⟨kaj _,(RV.aggA (by simp [hl]) (fun x f=>h1 x (qbd f)) fun i v x hv f=>?_).here⟩
      · simp [execOp,ho,hv,Instr.loadAt,Instr.sureAddr,loadVar,p.isAgg,hk,p.size,e]
      · simp only [qcd] at hv
        rw [qad] at hv f;split at hv
        · rename_i hi;rw [ql hi] at f;exact hr i v x hv f
        · cases hv
def kq6 (st:St) (off:Nat) (x:AV):Option AV:=match x with
  | .fz (.fp cs)=>match cs.drop off with
    | []=>none
    | y::ys=>some (.fz (.fp (y::ys)))
  | .ref id n o=>match kad st.heap id with
    | some (.box _ cells)=>bif Nat.beq n 0 then some (.ref id n (o+off)) else none
    | _=>none
  | _=>none
theorem kcc (b o n:Nat):(⟨b,o,none⟩:Addr).add n=⟨b,o+n,none⟩:=by
  unfold Addr.add;split
  · rename_i h;subst h;rfl
  · rfl
theorem ktn {off:Nat} {v:Value} {x c:AV} (hv:RV ψ (·∈st.ids) S w v x) (p:∀ id o,kad st.heap id=some o->ObR ψ (·∈st.ids) S w id o) (h:kq6 st off x=some c):
    ∃ b o,v = .pointer (some ⟨b,o,none⟩)/\RV ψ (·∈st.ids) S w (.pointer (some ⟨b,o+off,none⟩)) c:=by
  cases x with
  | fz x=>
    cases x with
    | fp cs=>
      simp only [kq6] at h;cases hv with
      | fz hv=>
        cases hv with
        | @fp b o _ vs hS ha hl h0 h1 hr=>
          split at h
          · cases h
          · rename_i y ys d
            injection h with h;subst h;refine ⟨b,o,rfl, .fz ?_⟩;rw [<- d];have m:off<cs.length:=by
              rcases qbq off cs.length with f | f
              · exact f
              · rw [qbs f] at d;cases d
            refine .fp (vs.drop off) hS (fun j u hu=>?_) (by simp [hl]) (by rw [qa3];omega) (fun x a=>h1 x (qbo a)) fun i v x hv a=>?_
            · rw [qau] at hu
              have:=ha _ u hu
              rwa [<- Nat.add_assoc] at this
            · rw [qau] at hv a
              exact hr _ v x hv a
    | _=>cases h
  | ref id n off'=>
    simp only [kq6] at h;split at h
    · rename_i e cells ho
      cases hn:Nat.beq n 0 with
      | false=>rw [hn] at h;cases h
      | true=>
        rw [hn] at h;simp only [qd,qe] at h;subst h;obtain rfl:=qm hn;obtain ⟨h0,b,cs,h1,r,s,t,z⟩:=p id _ ho;cases hv with
        | ref hK g q k=>
          obtain ⟨b',l,rfl⟩:=k h0.symm;exact ⟨b',off',rfl, .ref hK g rfl fun _=>⟨b',l,rfl⟩⟩
    · cases h
  | _=>cases h
theorem kaig {s:TypeId} {x:Operand} {f:Nat} {fs:List (TypeId×Nat)} {ft:TypeId} {off:Nat} {df:TD} {c:AV} (ho:o.op = .fieldAddr s x f) (j:TdOk P s d) (hk:d.kind = .st fs) (hf:fs[f]?=some (ft,off)) (e:TdOk P ft df) (k:df.size≠0)
    (hc:kq6 st off (st.eval x)=some c):NStep P o st c:=by
  intro ψ S a w ht l;obtain ⟨b,off',hv,hr⟩:=ktn (Sim.eval_tmps ht x) l hc;obtain ⟨gs,hu,h⟩:=j.strct hk;have hg:∃ g:Field,gs[f]?=some g/\g.type=ft/\g.offset=off:=by rw [<- h,qq,qw] at hf;obtain ⟨g,hg,i⟩:=hf;simp only [qt] at i;exact ⟨g,by simpa using hg,i.1,i.2⟩
  obtain ⟨g,hg,rfl,rfl⟩:=hg;refine kah w _ ?_ ⟨kaj _,hr.here⟩;simp [execOp,ho,hv,Instr.fieldAt,hu,hg,Instr.sureAddr,fieldPlace,e.size,k,kcc]
theorem k3i {x:Operand} {i:Nat} {c:AV} (ho:o.op = .extract x i) (hc:(match st.eval x with | .fz (.tup xs)=>(xs[i]?).map .fz | .tup xs=>xs[i]? | _=>none)=some c):NStep P o st c:=by
  intro ψ S a w ht f;have hv:=Sim.eval_tmps ht x;have key:∃ (cs:Array Value) (v:Value),a.eval x = .tuple cs/\cs[i]?=some v/\RV ψ (·∈st.ids) S w v c:=by
    generalize st.eval x=y at hv hc;generalize a.eval x=u at hv;split at hc
    · rename_i xs
      have hv:=hv.inv;cases hv with
      | @tup cs _ hl hr=>
        simp only [qw] at hc;obtain ⟨z,b,rfl⟩:=hc;have hi:i<cs.size:=(by rw [hl];exact (qh.1 b).1);exact ⟨cs,cs[i],rfl,by simp [hi], .fz (hr i _ z (by simp [hi]) b)⟩
    · rename_i xs
      cases hv with
      | @tup cs _ hl hr=>
        have hi:i<cs.size:=(by rw [hl];exact (qh.1 hc).1);exact ⟨cs,cs[i],rfl,by simp [hi],hr i _ c (by simp [hi]) hc⟩
    · cases hc
  obtain ⟨cs,v,h1,d,e⟩:=key;refine kah w v ?_ ⟨kaj _,e.here⟩;simp [execOp,ho,h1,Instr.extract,d]
theorem kaai {x:Operand} {c:AV} (ho:o.op = .nilCheck x) (hc:kq6 st 0 (st.eval x)=some c):NStep P o st c:=by intro ψ S a w ht d;obtain ⟨b,off',hv,hr⟩:=ktn (Sim.eval_tmps ht x) d hc;refine kah w _ ?_ ⟨kaj _,hr.here⟩;simp [execOp,ho,hv]
def kd2 {α:Type} (cells:List α) (off:Nat) (xs:List α):List α:=cells.take off++(xs++cells.drop (off+xs.length))
def ktx (place:Nat->Option (Nat×Nat)) (cells:List AV):List (Nat×AV)->Option (List AV)
  | []=>some cells
  | (i,x)::rest=>match place i with
    | none=>none
    | some (off,size)=>bif Nat.beq x.cells.length size && (Nat.ble (off+size) cells.length && x.cells.all AV.single) then ktx place (kd2 cells off x.cells) rest else none
def kti (d:TD):Option (List AV):=bif d.zero.all (·.oneCell') then some (d.zero.map fun v => .fz (.atom v)) else none
def PW (ψ:Env) (K S:Nat->Prop) (w:World) (cs:Array Value) (xs:List AV):Prop:=
  cs.size=xs.length/\∀ (i:Nat) (v:Value) (x:AV),cs[i]?=some v->xs[i]?=some x->RV ψ K S w v x
theorem koi {α:Type} (cells:List α) (off:Nat) (xs:List α) (h:off+xs.length<=cells.length) (k:Nat):(kd2 cells off xs)[k]?=if off<=k/\k<off+xs.length then xs[k - off]? else cells[k]?:=by
  unfold kd2;by_cases h1:k<off
  · rw [q9 (by rw [qam];omega),qad,ql h1,qi (by omega)]
  · rw [qap (by rw [qam];omega),qam,qce (by omega)]
    by_cases a:k<off+xs.length
    · rw [q9 (by omega),ql (by omega)]
    · rw [qap (by omega),qau,qi (by omega)]
      congr 1;omega
theorem kl9 {α:Type} (cells:List α) (off:Nat) (xs:List α) (h:off+xs.length<=cells.length):(kd2 cells off xs).length=cells.length:=by unfold kd2;simp only [qac,qam,qa3];omega
theorem k2f (place:Nat->Option (Nat×Nat)):∀ (parts:List (Nat×Value)) (as_:List (Nat×AV)) (cells:Array Value) (xs rs:List AV),PW ψ K S w cells xs->(∀ x∈xs,x.single=true)->parts.length=as_.length ->
    (∀ (i:Nat) (p:Nat×Value) (q:Nat×AV),parts[i]?=some p->as_[i]?=some q->p.1=q.1/\RV ψ K S w p.2 q.2)->ktx place xs as_=some rs ->
    ∃ r,Instr.fill place cells parts=some r/\PW ψ K S w r rs/\∀ x∈rs,x.single=true
  | [],[],cells,xs,rs,hp,h1,_,_,hf=>by simp only [ktx,qe] at hf;subst hf;exact ⟨cells,rfl,hp,h1⟩
  | (i,v)::parts,(j,x)::as_,cells,xs,rs,hp,h1,hl,hr,hf=>by
    obtain ⟨c,s⟩:=hr 0 _ _ rfl rfl;simp only at c;subst c;simp only [ktx] at hf;cases a:place i with
    | none=>rw [a] at hf;cases hf
    | some os=>
      obtain ⟨off,size⟩:=os;rw [a] at hf;simp only at hf;cases hc:(Nat.beq x.cells.length size && (Nat.ble (off+size) xs.length && x.cells.all AV.single)) with
      | false=>rw [hc] at hf;cases hf
      | true=>
        rw [hc] at hf;simp only [qd] at hf;simp only [qv] at hc;obtain ⟨b,hc2,e⟩:=hc;have b:=qm b;have hc2:=qu hc2;have hs:∀ y∈x.cells,y.single=true:=qr.1 e;obtain ⟨e1,e2,e3⟩:=RV.cells s hs;simp only at e1 e2 e3;obtain ⟨g1,g2⟩:=Great.foldl_set off v.cells.toList 0 cells;have d:off+x.cells.length<=xs.length:=(by omega);have f:PW ψ K S w ((v.cells.toList.zipIdx 0).foldl (fun cs (x:Value×Nat)=>cs.setIfInBounds (off+x.2) x.1) cells) (kd2 xs off x.cells):=by
          refine ⟨by rw [g1,kl9 _ _ _ d];exact hp.1,fun k u y hu hy=>?_⟩;rw [g2 k] at hu;rw [koi _ _ _ d] at hy;simp only [Nat.add_zero,qa9,e1] at hu;by_cases hk:off<=k/\k<off+x.cells.length
          · rw [ql ⟨hk.1,hk.2,by rw [hp.1];omega⟩] at hu
            rw [ql hk] at hy;exact e2 _ u y (by simpa using hu) hy
          · rw [qi (fun h=>hk ⟨h.1,h.2.1⟩)] at hu
            rw [qi hk] at hy;exact hp.2 k u y hu hy
        have g:∀ y∈kd2 xs off x.cells,y.single=true:=by
          intro y hy;unfold kd2 at hy;simp only [qak] at hy;rcases hy with hy | hy | hy
          · exact h1 y (qbd hy)
          · exact hs y hy
          · exact h1 y (qbo hy)
        obtain ⟨r,l,m,o⟩:=k2f place parts as_ _ _ rs f g (by simpa using hl) (fun n p q hp t=>hr (n+1) p q (by simpa using hp) (by simpa using t)) hf;refine ⟨r,?_,m,o⟩;unfold Instr.fill;rw [a];simp only;rw [qi (by simp [e1,b,hp.1];omega)];rw [<- l];congr 1;rw [<- Array.foldl_toList,Array.toList_zipIdx]
theorem k7m {α β:Type} {f:α->Sem β} {g:α->β} (w:World):∀ (l:List α),(∀ x∈l,(f x).run P w = .ok (g x) w)->(l.mapM f).run P w = .ok (l.map g) w
  | [],_=>by simp
  | x::l,h=>by rw [List.mapM_cons];have h1:=h x (qo ..);have a:=k7m w l fun y hy=>h y (qk _ hy);simp [h1,a]
theorem k19 (w:World) (ψ:Env) {z:Value} {xs:List AV} (c:z.cells.toList=d.zero) (h:kti d=some xs):PW ψ K S w z.cells xs/\∀ x∈xs,x.single=true:=by
  unfold kti at h;cases e:d.zero.all (·.oneCell') with
  | false=>rw [e] at h;cases h
  | true=>
    rw [e] at h;simp only [qd,qe] at h;subst h;have a:=qr.1 e;refine ⟨⟨by rw [qs,<- c];simp,fun i v x hv b=>?_⟩,fun x b=>?_⟩
    · simp only [qq,qw] at b
      obtain ⟨u,hu,rfl⟩:=b;rw [<- c,qbb,hv] at hu;injection hu with hu;subst hu;exact .fz (.atom (a v (by rw [<- c];exact Array.mem_toList_iff.2 (Array.mem_of_getElem? hv))))
    · simp only [qaa] at b
      obtain ⟨v,hv,rfl⟩:=b;exact a v hv
def ksf (T:List (TypeId×TD)):List (TypeId×Nat)->Option (List (Nat×Nat))
  | []=>some []
  | (ft,off)::l=>match kag T ft,ksf T l with
    | some d,some r=>some ((off,d.size)::r)
    | _,_=>none
theorem k04 (a:TOk P T):∀ {fs:List (TypeId×Nat)} {ps:List (Nat×Nat)},ksf T fs=some ps->ps=fs.map (fun f=>(f.2,P.cellsOf f.1))/\∀ f∈fs,∀ w,(sizeOf f.1).run P w = .ok (P.cellsOf f.1) w
  | [],ps,h=>by simp [ksf] at h;subst h;exact ⟨rfl,fun f hf=>by cases hf⟩
  | (ft,off)::l,ps,h=>by
    simp only [ksf] at h;split at h
    · rename_i d r b hr
      injection h with h;subst h;obtain ⟨h1,c⟩:=k04 a hr;have hs:P.cellsOf ft=d.size:=(by unfold Program.cellsOf;rw [(a.get b).info];rfl);refine ⟨by simp [h1,hs],fun f hf=>?_⟩;rcases qan.1 hf with rfl | hf
      · intro w;rw [(a.get b).size];simp [hs]
      · exact c f hf
    · cases h
def ke2 (st:St) (ps:Array (Nat×Operand)):List (Nat×AV):=ps.toList.map fun p=>(p.1,st.eval p.2)
theorem kp5 {ids:List Nat} (h:∀ t,RV ψ (·∈ids) S w (a.tmps.getD t undef) (st.get t)) (ps:Array (Nat×Operand)):
    (ps.map fun (i,x)=>(i,a.eval x)).toList.length=(ke2 st ps).length/\∀ (i:Nat) (p:Nat×Value) (q:Nat×AV),(ps.map fun (i,x)=>(i,a.eval x)).toList[i]?=some p->(ke2 st ps)[i]?=some q->p.1=q.1/\RV ψ (·∈ids) S w p.2 q.2:=by
  refine ⟨by simp [ke2],fun i p q hp b=>?_⟩;unfold ke2 at b;simp only [Array.toList_map,qq,qw] at hp b;obtain ⟨x,c,rfl⟩:=hp;obtain ⟨y,hy,rfl⟩:=b;rw [c] at hy;injection hy with hy;subst hy;exact ⟨rfl,Sim.eval_tmps h x.2⟩
def k6t (T:List (TypeId×TD)) (st:St) (t:TypeId) (parts:Array (Nat×Operand)):Option AV:=match kag T t with
  | some d=>match d.kind,kti d with
    | .st fs,some zs=>match ksf T fs with
      | some ps=>(ktx (fun i:Nat=>ps[i]?) zs (ke2 st parts)).map aggA
      | none=>none
    | .arr _ e,some zs=>match kag T e with
      | some de=>(ktx (fun i:Nat=>some (i*de.size,de.size)) zs (ke2 st parts)).map aggA
      | none=>none
    | _,_=>none
  | none=>none
theorem k8m {parts:Array (Nat×Operand)} {c:AV} (y:TOk P T) (ho:o.op = .build t parts) (hc:k6t T st t parts=some c):NStep P o st c:=by
  intro ψ S a w ht F;unfold k6t at hc;split at hc
  · rename_i d s
    have s:=y.get s;split at hc
    · rename_i fs zs hk A
      split at hc
      · rename_i ps B
        simp only [qw] at hc;obtain ⟨rs,k,rfl⟩:=hc;obtain ⟨gs,hu,u⟩:=s.strct hk;obtain ⟨C,D⟩:=k04 y B;obtain ⟨z,l,m⟩:=s.zero (w:=w);obtain ⟨e1,e2⟩:=kp5 ht parts;obtain ⟨z1,z2⟩:=k19 (S:=S) (K:=(·∈st.ids)) w ψ m A;obtain ⟨r,b,h,p⟩:=k2f (fun i:Nat=>ps[i]?) _ _ _ _ rs z1 z2 e1 e2 k;refine kah w (.agg r) ?_ ⟨kaj _,(RV.aggA h.1 p h.2).here⟩;have hm:(Array.mapM (fun f:Field=>Prod.mk f.offset <$> sizeOf f.type) gs).run P w = .ok ps.toArray w:=(by rw [Array.mapM_eq_mapM_toList];have:=k7m (P:=P) (f:=fun f:Field=>Prod.mk f.offset <$> sizeOf f.type) (g:=fun f=>(f.offset,P.cellsOf f.type)) w gs.toList fun f hf=>(by have:=D (f.type,f.offset) (by rw [<- u];exact qaa.2 ⟨f,hf,rfl⟩) w;simp [this]);simp only [Sem.run_map,this];rw [C,<- u];simp);have E:(fun i:Nat=>ps.toArray[i]?)=fun i:Nat=>ps[i]?:=(by funext i;simp);have j:(parts.map fun (i,x)=>(i,a.eval x)).toList=List.map (fun x=>(x.fst,a.eval x.snd)) parts.toList:=(by simp);rw [j] at b;simp [execOp,ho,Instr.build,l,hu,hm,E,b]
      · cases hc
    · rename_i n e zs hk A
      split at hc
      · rename_i de q
        have q:=y.get q;simp only [qw] at hc;obtain ⟨rs,k,rfl⟩:=hc;have hu:=run_underlying (s.arr hk) w;obtain ⟨z,l,m⟩:=s.zero (w:=w);obtain ⟨e1,e2⟩:=kp5 ht parts;obtain ⟨z1,z2⟩:=k19 (S:=S) (K:=(·∈st.ids)) w ψ m A;obtain ⟨r,b,h,p⟩:=k2f (fun i:Nat=>some (i*de.size,de.size)) _ _ _ _ rs z1 z2 e1 e2 k;refine kah w (.agg r) ?_ ⟨kaj _,(RV.aggA h.1 p h.2).here⟩;have j:(parts.map fun (i,x)=>(i,a.eval x)).toList=List.map (fun x=>(x.fst,a.eval x.snd)) parts.toList:=(by simp);rw [j] at b;simp [execOp,ho,Instr.build,l,hu,q.size,b]
      · cases hc
    · cases hc
  · cases hc
def arrX (T:List (TypeId×TD)) (st:St) (t:TypeId) (x y:Operand):Option AV:=match kag T t with
  | some d=>match d.kind with
    | .arr n e=>match kag T e,st.eval y with
      | some de, .fz (.atom (.int _ i))=>bif decide (0<=i) && decide (i<n) then kq6 st (i.toNat*de.size) (st.eval x) else none
      | _,_=>none
    | _=>none
  | none=>none
theorem n_arr {x y:Operand} {c:AV} (m:TOk P T) (ho:o.op = .indexAddr t x y) (hc:arrX T st t x y=some c):NStep P o st c:=by
  intro ψ S a w ht p;unfold arrX at hc;split at hc
  · rename_i d j
    split at hc
    · rename_i n e hk
      split at hc
      · rename_i de k i f hy
        cases g:decide (0<=i) && decide (i<(n:Int)) with
        | false=>rw [g] at hc;cases hc
        | true=>
          rw [g] at hc;simp only [qd] at hc;simp only [qv,qbm] at g;have j:=m.get j;have f:=m.get f;obtain ⟨b,off',hv,hr⟩:=ktn (Sim.eval_tmps ht x) p hc;have h:=Sim.eval_tmps ht y;rw [hy] at h;have l:=h.atom;refine kah w _ ?_ ⟨kaj _,hr.here⟩;simp [execOp,ho,hv,l,Instr.indexAt,asIntOf,run_underlying (j.arr hk),Instr.sureAddr,g.1,g.2,f.size,kcc]
      · cases hc
    · cases hc
  · cases hc
def kp4 (size:Nat):Nat->List (Nat×AV)->Option (List FV)
  | _,[]=>some []
  | i,(j, .fz x)::l=>bif Nat.beq j i && (Nat.beq x.cells.length size && x.cells.all FV.single) then (kp4 size (i+1) l).map (x::·) else none
  | _,_::_=>none
def kpz:AV->Option (List FV)
  | .fz (.lst _ _ xs)=>some xs
  | .lim _ _ xs=>some xs
  | _=>none
def lenOf:AV->Option Nat
  | .fz (.lst _ n _)=>some n
  | .lim _ n _=>some n
  | .fz (.atom (.slice none 0 0))=>some 0
  | _=>none
def nilV:Value := .slice none 0 0
theorem RF.lst_inv {v:Value} {size n:Nat} {xs:List FV} (h:RF S w v (.lst size n xs)):∃ (A:Option Addr) (cap:Nat) (css:Nat->List Value),v = .slice A n cap/\n=xs.length/\n<=cap/\cap<=9223372036854775807/\0<size /\
    (∀ (i:Nat) (x:FV),xs[i]?=some x->∃ b o,A=some ⟨b,o,none⟩/\S b/\At w b (o+i*size) (css i)) /\
    (∀ (i:Nat) (x:FV),xs[i]?=some x->(css i).length=size/\x.cells.length=size/\∀ y∈x.cells,y.single=true) /\
    (∀ (i:Nat) (x:FV) (j:Nat) (v:Value) (y:FV),xs[i]?=some x->(css i)[j]?=some v->x.cells[j]?=some y->RF S w v y):=by
  cases h with
  | lst css hn hc hm hs ha hl hr=>exact ⟨_,_,css,rfl,hn,hc,hm,hs,ha,hl,hr⟩
theorem kw5 {v:Value} {x:AV} {xs:List FV} (h:RV ψ K S w v x) (a:kpz x=some xs):∃ A cap size n,n=xs.length/\v = .slice A n cap/\RF S w v (.lst size n xs):=by
  cases x with
  | fz x=>
    cases x with
    | lst size n ys=>
      simp only [kpz,qe] at a;subst a;have h:=h.inv;have b:=h;cases h with
      | lst css hn=>exact ⟨_,_,_,n,hn,rfl,b⟩
    | _=>cases a
  | lim size n ys=>
    simp only [kpz,qe] at a;subst a;cases h with
    | lim h=>
      have b:=h;cases h with
      | lst css hn=>exact ⟨_,_,_,n,hn,rfl,b⟩
  | _=>cases a
theorem kae7 {v:Value} {x:AV} {n:Nat} (h:RV ψ K S w v x) (a:lenOf x=some n):∃ A cap,v = .slice A n cap:=by
  unfold lenOf at a;split at a
  · injection a with a
    subst a;have h:=h.inv;cases h with
    | lst css hn=>exact ⟨_,_,rfl⟩
  · injection a with a
    subst a;cases h with
    | lim h=>exact ⟨_,_,rfl⟩
  · injection a with a
    subst a;rw [h.atom];exact ⟨_,_,rfl⟩
  · cases a
theorem k12 {x:Operand} {n:Nat} {e:TypeId} (ho:o.op = .call { callee := .builtin .len,args:=#[x],argTypes:=#[t] }) (b:TdOk P t d) (hk:d.kind = .slice e) (c:lenOf (st.eval x)=some n):NStep P o st (.fz (.atom (.int .i64 n))):=by intro ψ S a w ht f;obtain ⟨A,cap,hv⟩:=kae7 (Sim.eval_tmps ht x) c;refine kah w (.int .i64 n) ?_ ⟨kaj _, .fz (.atom rfl)⟩;simp [execOp,ho,resolve,invoke,builtin,Builtin.len_,run_underlying (b.slice hk),hv,goInt]
theorem k3n {x:Operand} {s:BA} (ho:o.op = .call { callee := .builtin .len,args:=#[x],argTypes:=#[t] }) (b:TdOk P t d) (hk:d.kind = .str) (c:st.eval x = .fz (.atom (.string s))):NStep P o st (.fz (.atom (.int .i64 s.size))):=by intro ψ S a w ht e;have h1:=Sim.eval_tmps ht x;rw [c] at h1;refine kah w (.int .i64 s.size) ?_ ⟨kaj _, .fz (.atom rfl)⟩;simp [execOp,ho,resolve,invoke,builtin,Builtin.len_,run_underlying (b.str hk),h1.atom,goInt]
theorem k87 {x y:Operand} {xs:List FV} {e:TypeId} {de:TD} {k:IntKind} {i:Int} {z:FV} {cs:List FV} (ho:o.op = .indexAddr t x y) (p:TdOk P t d) (hk:d.kind = .slice e) (f:TdOk P e de) (q:kpz (st.eval x)=some xs)
    (g:∀ z∈xs,z.cells.length=de.size) (hy:st.eval y = .fz (.atom (.int k i))) (h0:0<=i) (hi:xs[i.toNat]?=some z) (hc:z.cells=cs):NStep P o st (.fz (.fp cs)):=by
  subst hc;intro ψ S a w ht C;obtain ⟨A,cap,size,n,r,hv,s⟩:=kw5 (Sim.eval_tmps ht x) q;have h1:=Sim.eval_tmps ht y;rw [hy] at h1;have u:i.toNat<xs.length:=(qh.1 hi).1;obtain ⟨A',cap',css,h,B,hc,hm,hs,ha,hl,hr⟩:=s.lst_inv;obtain ⟨b,off,rfl,hS,l⟩:=ha _ _ hi;obtain ⟨l1,l2,l3⟩:=hl _ _ hi;have m:size=de.size:=by rw [<- g z (qp hi),l2]
  subst m;refine kah w (.pointer (some ⟨b,off+i.toNat*de.size,none⟩)) ?_ ⟨kaj _,(RV.fz (.fp (css i.toNat) hS l (by rw [l1,l2]) (by omega) l3 fun j v y hv hy=>hr _ _ j v y hi hv hy)).here⟩;have c:i<(n:Int):=by omega
  simp [execOp,ho,Instr.indexAt,h1.atom,asIntOf,run_underlying (p.slice hk),h,h0,c,f.size,kcc]
theorem kadc {x y:Operand} {s:BA} {k:IntKind} {i:Int} {c:UInt8} (ho:o.op = .index t x y) (e:TdOk P t d) (hk:d.kind = .str) (f:st.eval x = .fz (.atom (.string s))) (hy:st.eval y = .fz (.atom (.int k i))) (h0:0<=i) (hi:s[i.toNat]?=some c):
    NStep P o st (.fz (.atom (.int .u8 c.toNat))):=by
  intro ψ S a w ht g;have h1:=Sim.eval_tmps ht x;rw [f] at h1;have b:=Sim.eval_tmps ht y;rw [hy] at b;refine kah w (.int .u8 c.toNat) ?_ ⟨kaj _, .fz (.atom rfl)⟩;simp [execOp,ho,Instr.index,h1.atom,b.atom,asIntOf,run_underlying (e.str hk),h0,hi]
theorem kakr {sr:TypeId} {x:Operand} {k k':IntKind} {n:Int} (ds:TD) (ho:o.op = .convert sr t x) (hs:∃ e,P.underlying sr=some e) (b:P.underlying t=some (.int k)) (c:st.eval x = .fz (.atom (.int k' n))):NStep P o st (.fz (.atom (.int k (k.wrap n)))):=by intro ψ S a w ht f;obtain ⟨e,d⟩:=hs;have h1:=Sim.eval_tmps ht x;rw [c] at h1;refine kah w (.int k (k.wrap n)) ?_ ⟨kaj _, .fz (.atom rfl)⟩;cases e <;> simp [execOp,ho,h1.atom,convert,run_underlying d,run_underlying b,Conv.intToInt]
theorem kad3 {f:FuncId} {cap:Array Operand} (ho:o.op = .makeFunc (.func f) #[] cap):NStep P o st (.fn f (cap.toList.map st.eval)):=by
  intro ψ S a w ht d;refine kah w (.func (.func f) #[] (cap.map a.eval)) ?_ ⟨kaj _,(RV.fn (by simp) fun i v x hv c=>?_).here⟩
  · simp [execOp,ho,Instr.makeFunc]
  · simp only [Array.getElem?_map,qw,qq,qbb] at hv c
    obtain ⟨y,hy,rfl⟩:=hv;obtain ⟨z,b,rfl⟩:=c;rw [hy] at b;injection b with b;subst b;exact Sim.eval_tmps ht y
theorem kagr {f:FuncId} {fst:Array Operand} (ho:o.op = .makeFunc (.func f) fst #[]):NStep P o st (.mth f (fst.toList.map st.eval)):=by
  intro ψ S a w ht d;refine kah w (.func (.func f) (fst.map a.eval) #[]) ?_ ⟨kaj _,(RV.mth (by simp) fun i v x hv c=>?_).here⟩
  · simp [execOp,ho,Instr.makeFunc]
  · simp only [Array.getElem?_map,qw,qq,qbb] at hv c
    obtain ⟨y,hy,rfl⟩:=hv;obtain ⟨z,b,rfl⟩:=c;rw [hy] at b;injection b with b;subst b;exact Sim.eval_tmps ht y
theorem kw8 {size:Nat}:∀ {i:Nat} {l:List (Nat×AV)} {xs:List FV},kp4 size i l=some xs->l=(xs.zipIdx i).map (fun p=>(p.2,AV.fz p.1))/\∀ x∈xs,x.cells.length=size/\∀ y∈x.cells,y.single=true
  | i,[],xs,h=>by simp only [kp4,qe] at h;subst h;exact ⟨rfl,fun x f=>by cases f⟩
  | i,(j,x)::l,xs,h=>by
    cases x with
    | fz x=>
      simp only [kp4] at h;cases a:(Nat.beq j i && (Nat.beq x.cells.length size && x.cells.all FV.single)) with
      | false=>rw [a] at h;cases h
      | true=>
        rw [a] at h;simp only [qd,qw] at h;obtain ⟨ys,b,rfl⟩:=h;simp only [qv] at a;obtain ⟨c,d,e⟩:=a;obtain rfl:=qm c;obtain ⟨h1,g⟩:=kw8 b;refine ⟨by rw [h1];rfl,fun y hy=>?_⟩;rcases qan.1 hy with rfl | hy
        · exact ⟨qm d,qr.1 e⟩
        · exact g y hy
    | _=>cases h
theorem kagv {n:Nat} {parts:Array (Nat×Operand)} {e:TypeId} {de:TD} {xs:List FV} (ho:o.op = .buildSlice t n parts) (M:TdOk P t d) (hk:d.kind = .slice e) (B:TdOk P e de) (f:0<de.size) (hn:xs.length=n) (T:n*de.size<=16777216)
    (hp:kp4 de.size 0 (ke2 st parts)=some xs):NStep P o st (.lim de.size n xs):=by
  subst hn;intro ψ S a w ht U;obtain ⟨e1,e2⟩:=kp5 ht parts;obtain ⟨p1,p2⟩:=kw8 hp
  -- the parts' values
  obtain ⟨vs,s⟩:∃ vs:List Value,vs=parts.toList.map (fun p=>a.eval p.2):=⟨_,rfl⟩;have c:parts.toList.length=xs.length:=by have:(ke2 st parts).length=xs.length:=(by rw [p1];simp);simpa [ke2] using this
  have C:vs.length=xs.length:=by rw [s];simp at c ⊢; exact c
  have g:∀ (i:Nat) (x:FV),xs[i]?=some x->∃ v p,vs[i]?=some v/\parts.toList[i]?=some p/\p.1=i/\RF S w v x:=fun i x q=>by have hi:i<parts.toList.length:=(by rw [c];exact (qh.1 q).1);have N:(ke2 st parts)[i]?=some (i, .fz x):=(by rw [p1];simp [q]);have A:parts.toList[i]?=some parts.toList[i]:=qb hi;have E:(parts.map fun (i,x)=>(i,a.eval x)).toList[i]?=some (parts.toList[i].1,a.eval parts.toList[i].2):=(by simp [A]);obtain ⟨r1,r2⟩:=e2 i _ _ E N;exact ⟨a.eval parts.toList[i].2,parts.toList[i],by rw [s,qq,A];rfl,A,r1,r2.inv⟩
  have F:(parts.map fun (i,x)=>(i,a.eval x)).toList=(vs.zipIdx 0).map (fun x=>(x.2,x.1)):=by
    apply qbt;intro i;by_cases hi:i<xs.length
    · obtain ⟨v,p,h1,K,O,_⟩:=g i xs[i] (qb hi)
      have:v=a.eval p.2:=(by rw [s,qq,K] at h1;simpa using h1.symm);simp only [Array.toList_map,qq,List.getElem?_zipIdx,h1,K,qba,Nat.zero_add];rw [this,O]
    · rw [qaq (by simp at c ⊢; omega),qaq (by simp [C];omega)]
  have b:∀ v∈vs,v.cells.size=de.size:=fun v hv=>by obtain ⟨i,hi,rfl⟩:=qal.1 hv;obtain ⟨v,p,h1,_,_,G⟩:=g i xs[i] (qb (by omega));rw [qb hi] at h1;injection h1 with h1;rw [h1,(G.cells (p2 _ (qn _)).2).1,(p2 _ (qn _)).1]
  obtain ⟨z,H,Q⟩:=B.zero (P:=P) (w:=w);obtain ⟨cells,hcl⟩:∃ cells:Array Value,cells=(vs.flatMap fun v=>v.cells.toList).toArray:=⟨_,rfl⟩;have D:(Instr.buildSlice t xs.length (parts.map fun (i,x)=>(i,a.eval x))).run P w = .ok (.slice (some ⟨w.heap.size,0,none⟩) xs.length xs.length) (w.alloc (.cells cells e)):=by
    have I:¬ xs.length*de.size > 2 ^ 24:=(by omega);have k:∀ c0:Array Value,xs.length*de.size=c0.size->Instr.fill (fun i=>some (i*de.size,de.size)) c0 (parts.map fun (i,x)=>(i,a.eval x)).toList=some cells:=fun c0 J=>(by rw [F,Great.fill_whole f vs c0 b (by rw [C];exact J),hcl]);unfold Instr.buildSlice;rw [Sem.run_bind,run_underlying (M.slice hk),Result.andThen_ok];simp only [Sem.run_bind,B.size,Result.andThen_ok,qi I];by_cases h0:xs.length*de.size=0
    · simp only [ql h0,Sem.run_bind,Sem.run_pure,Result.andThen_ok]
      rw [k]
      · rfl
      · simp
    · simp only [qi h0,Sem.run_bind,H,Result.andThen_ok,Sem.run_pure]
      rw [k]
      · rfl
      · simp
  refine kah (w.alloc (.cells cells e)) _ ?_ ⟨kbl _ _, .lim (.lst (fun i=>(vs.getD i undef).cells.toList) rfl (qx _) ?_ f (fun i x q=>⟨w.heap.size,0,rfl, .inr (qx _),fun j u hu=>?_⟩) (fun i x q=>?_) fun i x j v y q hv hy=>?_)⟩
  · have l:=D
    simp only [execOp,ho,Sem.run_bind];rw [show (parts.map fun (i,x)=>(i,a.eval x))=parts.map (fun x=>(x.1,a.eval x.2)) from rfl] at l;simp [l]
  · have:xs.length*1<=xs.length*de.size:=Nat.mul_le_mul_left _ f
    omega
  · have hi:=(qh.1 q).1
    have m:vs.getD i undef=vs[i]:=(by simp [List.getD,qb (show i<vs.length by omega)]);rw [m] at hu;have L:j<de.size:=(by have:=(qh.1 hu).1;rw [qa9,b _ (qn _)] at this;exact this);have r:=Great.flat_get f vs b (i*de.size+j);rw [show (i*de.size+j) / de.size=i by rw [Nat.mul_comm,Nat.mul_add_div f,Nat.div_eq_of_lt L];omega,show (i*de.size+j) % de.size=j by rw [Nat.mul_comm,Nat.mul_add_mod,Nat.mod_eq_of_lt L]] at r;rw [qb (show i<vs.length by omega)] at r;simp only [qa] at r;have R:(w.alloc (.cells cells e)).heap[w.heap.size]?=some (.cells cells e (0,0)):=heap_alloc_new w _;simp only [World.cell?,R,Nat.zero_add];simp only [Option.isSome_none,Bool.false_eq_true,if_false];rw [hcl];simp only [qcd];rw [r];simpa using hu
  · have hi:=(qh.1 q).1
    have m:vs.getD i undef=vs[i]:=(by simp [List.getD,qb (show i<vs.length by omega)]);have:=p2 x (qp q);rw [m];exact ⟨by rw [qa9,b _ (qn _)],this.1,this.2⟩
  · obtain ⟨u,p,h1,_,_,G⟩:=g i x q
    have m:vs.getD i undef=u:=(by simp [List.getD,h1]);simp only [m] at hv;have:=(G.cells (p2 x (qp q)).2).2.1 j v y (by simpa using hv) hy;exact (this.keep (Same.of_grow (kbl _ _))).mono fun _ h => .inl h
def Env.set (ψ:Env) (id n:Nat) (v:Value):Env:=⟨fun i=>if i=id then n else ψ.len i,fun i=>if i=id then v else ψ.val i⟩
section
variable {P:Program} {F S0:Nat->Prop} {N0:Nat} {w w':World} {S S':Nat->Prop} {ψ:Env} {K:Nat->Prop} {T:List (TypeId×TD)} {o:Oper} {a:Act} {st:St} {t:TypeId} {d:TD} {heap:List (Nat×AObj)} {ids:List Nat} {id:Nat}
theorem kcl (n:Nat) (v:Value):(ψ.set id n v).len id=n:=by simp [Env.set]
theorem kap (n:Nat) (v:Value):(ψ.set id n v).val id=v:=by simp [Env.set]
theorem kei (ψ:Env) {i:Nat} (h:i≠id) (n:Nat) (v:Value):(ψ.set id n v).len i=ψ.len i/\(ψ.set id n v).val i=ψ.val i:=by simp [Env.set,h]
theorem kb5 (h:id∉ids) (n:Nat) (v:Value):Ext (·∈ids) ψ (ψ.set id n v):=fun i hi=>by have a:i≠id:=fun e=>h (e ▸ hi);obtain ⟨h1,b⟩:=kei ψ a n v;exact ⟨by omega,fun _=>b⟩
theorem ku3 {n:Nat} {v:Value} (h:ψ.len id<n\/(ψ.len id=n/\v=ψ.val id)):Ext (·∈ids) ψ (ψ.set id n v):=fun i hi=>by
  by_cases a:i=id
  · subst a
    rw [kcl,kap];rcases h with h | ⟨h1,b⟩
    · exact ⟨by omega,fun e=>by omega⟩
    · exact ⟨by omega,fun _=>b⟩
  · obtain ⟨h1,b⟩:=kei ψ a n v
    exact ⟨by omega,fun _=>b⟩
theorem Core.addB {n:Nat} {v:Value} {ob:AObj} (h:Core F S0 N0 heap ids ψ S w) (hg:Grow w w') (m:id∉ids) (k:∀ b,Blk v b->w.heap.size<=b)
    (t:ObR (ψ.set id n v) (·∈id::ids) S w' id ob):Core F S0 N0 ((id,ob)::heap) (id::ids) (ψ.set id n v) S w':=by
  have hk:Same S w w':=Same.of_grow hg;have c:∀ i,i∈ids->i≠id:=fun i hi e=>m (e ▸ hi);refine ⟨fun i o' ho=>?_,fun i i' o' o'' b ho d o g f=>?_,fun b k=>qbn (h.lt b k) hg.size,h.s0,qag h.n0 hg.size,fun b k=>qbn (h.fr b k) hg.size⟩
  · rw [kai] at ho
    by_cases p:id=i
    · subst p
      rw [ql rfl] at ho;injection ho with ho;subst ho;refine ⟨qo ..,t,fun b a=>?_⟩;rw [kap] at a;have:=k b a;exact ⟨fun hs=>by have:=h.lt b hs;omega,fun hf=>by have:=h.fr b hf;omega, .inr (by have:=h.n0;omega)⟩
    · rw [qi p] at ho
      obtain ⟨h1,l,r⟩:=h.obj i o' ho;have q:=kei ψ (c i h1) n v;refine ⟨qk _ h1,l.keep (kb5 m n v) (fun _ h=>qk _ h) (fun _ h=>h) hk q fun b a=>hg.block b (l.lt a),fun b a=>r b (by rw [q.2] at a;exact a)⟩
  · rw [kai] at ho d
    by_cases p:id=i
    · subst p
      by_cases j:id=i'
      · exact o j
      · rw [qi j] at d
        obtain ⟨h1,l,r⟩:=h.obj i' o'' d;rw [kap] at g;rw [(kei ψ (c i' h1) n v).2] at f;have:=k b g;have:=l.lt f;omega
    · rw [qi p] at ho
      obtain ⟨h1,l,r⟩:=h.obj i o' ho;rw [(kei ψ (c i h1) n v).2] at g;by_cases j:id=i'
      · subst j
        rw [kap] at f;have:=k b f;have:=l.lt g;omega
      · rw [qi j] at d
        obtain ⟨s,u,x⟩:=h.obj i' o'' d;rw [(kei ψ (c i' s) n v).2] at f;exact h.inj i i' o' o'' b ho d o g f
theorem Core.add {n:Nat} {v:Value} {ob:AObj} (h:Core F S0 N0 heap ids ψ S w) (hg:Grow w w') (c:id∉ids) (e:∀ b,kau v=some b->w.heap.size<=b)
    (f:ObR (ψ.set id n v) (·∈id::ids) S w' id ob) (d:ki6 v=[]:=by rfl):Core F S0 N0 ((id,ob)::heap) (id::ids) (ψ.set id n v) S w':=
  h.addB hg c (fun b a=>e b (by
    rcases a with a | ⟨u,hu,_⟩
    · exact a
    · rw [d] at hu;cases hu)) f
theorem Core.upd {n:Nat} {v:Value} {ob ob':AObj} (h:Core F S0 N0 heap ids ψ S w) (ho:kad heap id=some ob) (r:w.heap.size<=w'.heap.size) (l:∀ k,k<w.heap.size->¬ Blk (ψ.val id) k->w'.heap[k]?=w.heap[k]?)
    (A:ψ.len id<n\/(ψ.len id=n/\v=ψ.val id)) (o:∀ b,Blk v b->Blk (ψ.val id) b\/w.heap.size<=b) (B:ObR (ψ.set id n v) (·∈ids) S w' id ob'):
    Core F S0 N0 ((id,ob')::heap) ids (ψ.set id n v) S w'/\Same S w w'/\∀ b,F b->w'.heap[b]?=w.heap[b]?:=by
  obtain ⟨y,C,s⟩:=h.obj id ob ho;have hk:Same S w w':=fun b o hl=>l b hl fun e=>(s b e).1 o;refine ⟨⟨fun i o' a=>?_,fun i i' o' o'' b m d p j f=>?_,fun b o=>qbn (h.lt b o) r,h.s0,qag h.n0 r,fun b o=>qbn (h.fr b o) r⟩,hk,fun b hf=>l b (h.fr b hf) fun e=>(s b e).2.1 hf⟩
  · rw [kai] at a
    by_cases q:id=i
    · subst q
      rw [ql rfl] at a;injection a with a;subst a;refine ⟨y,B,fun b c=>?_⟩;rw [kap] at c;rcases o b c with h1 | h1
      · exact s b h1
      · exact ⟨fun hs=>by have:=h.lt b hs;omega,fun hf=>by have:=h.fr b hf;omega, .inr (by have:=h.n0;omega)⟩
    · rw [qi q] at a
      obtain ⟨h1,t,z⟩:=h.obj i o' a;have u:=kei ψ (Ne.symm q) n v;refine ⟨h1,t.keep (ku3 A) (fun _ h=>h) (fun _ h=>h) hk u fun b c=>l b (t.lt c) fun e=>h.inj i id o' ob b a ho (Ne.symm q) c e,fun b c=>z b (by rw [u.2] at c;exact c)⟩
  · rw [kai] at m d
    by_cases q:id=i
    · subst q
      by_cases g:id=i'
      · exact p g
      · rw [qi g] at d
        obtain ⟨h1,t,z⟩:=h.obj i' o'' d;rw [kap] at j;rw [(kei ψ (Ne.symm g) n v).2] at f;rcases o b j with x | x
        · exact h.inj id i' ob o'' b ho d p x f
        · have:=t.lt f;omega
    · rw [qi q] at m
      obtain ⟨h1,t,z⟩:=h.obj i o' m;rw [(kei ψ (Ne.symm q) n v).2] at j;by_cases g:id=i'
      · subst g
        rw [kap] at f;rcases o b f with x | x
        · exact h.inj i id o' ob b m ho p j x
        · have:=t.lt j;omega
      · rw [qi g] at d
        obtain ⟨D,E,G⟩:=h.obj i' o'' d;rw [(kei ψ (Ne.symm g) n v).2] at f;exact h.inj i i' o' o'' b m d p j f
theorem kkg (ob:Obj) (a:∀ b,F b->b<w.heap.size):Fr F w (w.alloc ob):=Fr.of_grow a (kbl w ob)
theorem kagw {e:TypeId} {x:Operand} {cells:List AV} (ho:o.op = .box e x) (g:(st.eval x).cells=cells) (h1:cells.all AV.single=true) (c:st.ids.contains id=false):
    StepA P o st (.ref id 0 0) ((id, .box e cells)::st.heap) (id::st.ids):=by
  subst g;have hs:∀ y∈(st.eval x).cells,y.single=true:=qr.1 h1;have c:id∉st.ids:=by simpa using c
  intro F S0 N0 ψ S a w f;obtain ⟨e1,e2,e3⟩:=RV.cells (f.eval x) hs;have d:=f.core;refine kah (w.alloc (.cells (a.eval x).cells e)) (.pointer (some ⟨w.heap.size,0,none⟩)) ?_ ⟨ψ.set id 0 (.pointer (some ⟨w.heap.size,0,none⟩)),S,?_,?_,kkg _ d.fr,kb5 c _ _,fun _ h=>qk _ h,fun _ h=>h,Same.of_grow (kbl _ _)⟩
  · simp [execOp,ho,Instr.box,newVar,newRow]
  · refine d.add (kbl _ _) c (fun b j=>by simp [kau] at j;omega) ⟨kcl _ _,w.heap.size,_,kap _ _,heap_alloc_new w _,e1,hs,fun i v y hv hy=>?_⟩
    exact (e2 i v y hv hy).keep (kb5 c _ _) (fun _ h=>qk _ h) (fun _ h=>h) (Same.of_grow (kbl _ _))
  · exact .ref (qo ..) (qao _) rfl fun _=>⟨w.heap.size,by rw [kap];rfl,rfl⟩
theorem k2c {e:TypeId} {cells:List AV} (ho:o.op = .alloc e) (l:TdOk P e d) (m:kti d=some cells) (c:st.ids.contains id=false):
    StepA P o st (.ref id 0 0) ((id, .box e cells)::st.heap) (id::st.ids):=by
  have c:id∉st.ids:=by simpa using c
  intro F S0 N0 ψ S a w g;obtain ⟨z,j,k⟩:=l.zero (P:=P) (w:=w);obtain ⟨z1,z2⟩:=k19 (S:=S) (K:=(·∈st.ids)) w ψ k m;have f:=g.core;refine kah (w.alloc (.cells z.cells e)) (.pointer (some ⟨w.heap.size,0,none⟩)) ?_ ⟨ψ.set id 0 (.pointer (some ⟨w.heap.size,0,none⟩)),S,?_,?_,kkg _ f.fr,kb5 c _ _,fun _ h=>qk _ h,fun _ h=>h,Same.of_grow (kbl _ _)⟩
  · simp [execOp,ho,Instr.alloc,j,newVar,newRow]
  · refine f.add (kbl _ _) c (fun b n=>by simp [kau] at n;omega) ⟨kcl _ _,w.heap.size,_,kap _ _,heap_alloc_new w _,z1.1,z2,fun i v y hv hy=>?_⟩
    exact (z1.2 i v y hv hy).keep (kb5 c _ _) (fun _ h=>qk _ h) (fun _ h=>h) (Same.of_grow (kbl _ _))
  · exact .ref (qo ..) (qao _) rfl fun _=>⟨w.heap.size,by rw [kap];rfl,rfl⟩
theorem kmo (g:Nat) (cs:Array Value) (k:Nat) (h:k≠g):(w.setRow g cs).heap[k]?=w.heap[k]?:=by simp only [World.setRow,Array.getElem?_modify];rw [qi (fun e=>h e.symm)]
theorem klj (g:Nat) {cs cs':Array Value} {e:TypeId} {fr:Nat×Nat} (h:w.heap[g]?=some (.cells cs e fr)):(w.setRow g cs').heap[g]?=some (.cells cs' e fr):=by simp [World.setRow,Array.getElem?_modify,h]
theorem k8n {e:TypeId} {x y:Operand} {off:Nat} {cells ys:List AV} (ho:o.op = .store t x y) (I:TdOk P t d) (J:st.eval x = .ref id 0 off) (B:kad st.heap id=some (.box e cells)) (hy:(st.eval y).cells=ys) (hl:ys.length=d.size) (h1:ys.all AV.single=true)
    (C:off+ys.length<=cells.length):StepA P o st .any ((id, .box e (kd2 cells off ys))::st.heap) st.ids:=by
  subst hy;have hs:∀ z∈(st.eval y).cells,z.single=true:=qr.1 h1;intro F S0 N0 ψ S a w r;obtain ⟨e1,e2,e3⟩:=RV.cells (r.eval y) hs;have f:=r.core;obtain ⟨K,⟨h0,b,cs,g,E,s,j,hr⟩,G⟩:=f.obj id _ B;have hv:=r.eval x;rw [J] at hv;have H:a.eval x = .pointer (some ⟨b,off,none⟩):=by
    generalize a.eval x=u at hv;cases hv with
    | ref hK hn h1 hv=>
      obtain ⟨b',A,rfl⟩:=hv h0.symm;rw [g] at A;simp only [kau,qe] at A;rw [A]
  have hst:=run_storeCells_at (P:=P) b off e (a.eval y).cells.toList 0 cs w E (by simp [e1,s];omega) e3;simp only [Nat.add_zero,qa9] at hst;obtain ⟨new,l⟩:∃ new:Array Value,new=(cs.toList.take off++(a.eval y).cells.toList++cs.toList.drop (off+(a.eval y).cells.size)).toArray:=⟨_,rfl⟩;rw [<- l] at hst;have D:new.toList=kd2 cs.toList off (a.eval y).cells.toList:=by rw [l];simp [kd2,qbi]
  have L:(w.setRow b new).heap.size=w.heap.size:=by simp [World.setRow]
  have m:∀ k,k<w.heap.size->¬ Blk (ψ.val id) k->(w.setRow b new).heap[k]?=w.heap[k]?:=fun k _ hk=>kmo b new k fun e=>hk (.of (by rw [g,e];rfl));have p:ψ.set id 0 (ψ.val id)=ψ:=by
    unfold Env.set;congr 1
    · funext i;split
      · rename_i h;rw [h,h0]
      · rfl
    · funext i;split
      · rename_i h;rw [h]
      · rfl
  have hk:Same S w (w.setRow b new):=fun k hk hl=>m k hl fun e=>(G k e).1 hk;obtain ⟨c1,c2,c3⟩:=f.upd (n:=0) (v:=ψ.val id) (w':=w.setRow b new) (ob' := .box e (kd2 cells off (st.eval y).cells)) B (by omega) m (.inr ⟨h0,rfl⟩) (fun b E => .inl E) (by
    rw [p];have q:off+(a.eval y).cells.toList.length<=cs.toList.length:=(by simp [e1,s];omega);refine ⟨h0,b,new,g,klj b E,?_,fun z c=>?_,fun i v z hv c=>?_⟩
    · rw [<- qa9,D,kl9 _ _ _ q,kl9 _ _ _ C];simpa using s
    · unfold kd2 at c
      simp only [qak] at c;rcases c with c | c | c
      · exact j z (qbd c)
      · exact hs z c
      · exact j z (qbo c)
    · rw [<- qbb,D,koi _ _ _ q] at hv
      rw [koi _ _ _ C] at c;simp only [qa9,e1] at hv;split at hv
      · rename_i hi
        rw [ql hi] at c;exact (e2 _ v z (by simpa using hv) c).keep Ext.refl (fun _ h=>h) (fun _ h=>h) hk
      · rename_i hi
        rw [qi hi] at c;exact (hr _ v z (by simpa using hv) c).keep Ext.refl (fun _ h=>h) (fun _ h=>h) hk)
  rw [p] at c1;refine kld (w.setRow b new) ?_ ⟨ψ,S,c1, .any,⟨rfl,rfl,rfl,by omega,c3⟩,Ext.refl,fun _ h=>h,fun _ h=>h,c2⟩;simp only [execOp,ho,Instr.storeAt,H,Instr.sureAddr,storeVar,I.size,Sem.run_bind,Sem.run_pure,Result.andThen_ok];rw [qi (by rw [e1,hl];simp)];simp [hst]
end
section
variable {P:Program} {F S0:Nat->Prop} {N0:Nat} {w w':World} {S S':Nat->Prop} {ψ:Env} {K:Nat->Prop} {T:List (TypeId×TD)} {o:Oper} {a:Act} {st:St} {t:TypeId} {d:TD} {heap:List (Nat×AObj)} {ids:List Nat} {id:Nat}
def RowR (S:Nat->Prop) (w:World) (size:Nat) (xs:List FV) (cs:List Value):Prop:=
  ∀ (i:Nat) (x:FV) (j:Nat) (v:Value) (y:FV),xs[i]?=some x->cs[i*size+j]?=some v->x.cells[j]?=some y->RF S w v y
def ElR (size:Nat) (xs:List FV):Prop:=∀ x∈xs,x.cells.length=size/\∀ y∈x.cells,y.single=true
theorem RowR.append {size:Nat} {xs ys:List FV} {cs news:List Value} (hs:0<size) (h:RowR S w size xs cs) (k:RowR S w size ys news) (hl:cs.length=xs.length*size) (b:ElR size xs):RowR S w size (xs++ys) (cs++news):=by
  intro i x j v y hi hv hy;by_cases a:i<xs.length
  · rw [q9 a] at hi
    have c:j<size:=(by have:=(qh.1 hy).1;rw [(b x (qp hi)).1] at this;exact this);have:(i+1)*size<=xs.length*size:=qa1 _ a;rw [qbj] at this;rw [q9 (by omega)] at hv;exact h i x j v y hi hv hy
  · rw [qap (by omega)] at hi
    have:xs.length*size<=i*size:=qa1 _ (by omega);rw [qap (by omega),hl,show i*size+j - xs.length*size=(i - xs.length)*size+j by rw [Nat.sub_mul];omega] at hv;exact k _ x j v y hi hv hy
theorem RowR.keep {size:Nat} {xs:List FV} {cs:List Value} (h:RowR S w size xs cs) (hk:Same S w w'):RowR S w' size xs cs:=fun i x j v y h1 a b=>(h i x j v y h1 a b).keep hk
theorem kajp {e:TypeId} {de:TD} {t:TypeId} (ty:TypeId) (ht:P.underlying t=some (.slice e)) (H:TdOk P e de) (o:0<de.size) (I:de.zero.length=de.size) {v s:Value} {n m:Nat} {cs:List Value} {zs:List FV} (a:w.ownsRow 0 e de.size v n cs) (hs:RF S w s (.lst de.size m zs)) (J:n+zs.length<=9223372036854775807) (f:(n+zs.length)*de.bytes<=140737488355328):
    ∃ v' w' news,(Builtin.append_ #[t,t] ty #[v,s]).run P w = .ok v' w'/\w'.ownsRow 0 e de.size v' (n+zs.length) (cs++news)/\w.grownBy w' v.ownBlock/\(v'.ownBlock=v.ownBlock\/v'.ownBlock=some w.heap.size)/\news.length=zs.length*de.size /\
      RowR S w de.size zs news/\ElR de.size zs/\(zs=[]->v'=v):=by
  obtain ⟨A,cap,css,rfl,rfl,hc,hm,_,ha,hl,hr⟩:=hs.lst_inv;have k:ElR de.size zs:=fun x F=>by obtain ⟨i,hi,rfl⟩:=qal.1 F;exact (hl i _ (qb hi)).2
  obtain ⟨⟨i,z,hi,p,q,r,K⟩,_⟩:=H;have B:z.cells.size=de.size:=by rw [<- qa9,K,I]
  by_cases C:zs=[]
  · subst C
    cases A with
    | none=>exact ⟨v,w,[],kyq 0 t ty e i de.size ht hi v n cs a cap,by simpa using a,World.grownBy.refl w _, .inl rfl,by simp,(fun i x j v y h=>by simp at h),k,fun _=>rfl⟩
    | some ad=>
      obtain ⟨v',w',d,G,L,U,M⟩:=run_append_own_at (P:=P) w 0 t ty e i z de.size de.bytes ht hi r p q B o v n cs a ad 0 cap [] (by simp) (fun j u h=>by simp at h) (by simp) (by unfold maxLen;simp at J;omega) (by simpa using f) (by omega);have N:v'=v:=by
        have hn:(Builtin.append_ #[t,t] ty #[v, .slice (some ad) 0 cap]).run P w = .ok v w:=by
          rcases a.2 with ⟨rfl,rfl⟩ | ⟨g,cap',cur,rfl,_,_,O,_⟩
          · simp [Builtin.append_,run_underlying ht,sizeOf,typeInfo,hi,Builtin.lenOf,Builtin.firstCells,loadCells,loadCellsFrom]
          · simp [Builtin.append_,run_underlying ht,sizeOf,typeInfo,hi,Builtin.lenOf,Builtin.firstCells,O,storeCells,loadCells,loadCellsFrom]
        rw [hn] at d;injection d with h1 G;exact h1.symm
      exact ⟨v',w',[],d,by simpa using G,L,M,by simp,(fun i x j v y h=>by simp at h),k,fun _=>N⟩
  · obtain ⟨y0,ys,rfl⟩:∃ y0 ys,zs=y0::ys:=by
      cases zs with
      | nil=>exact absurd rfl C
      | cons y ys=>exact ⟨y,ys,rfl⟩
    obtain ⟨b,off,rfl,_,_⟩:=ha 0 y0 rfl;obtain ⟨news,hn,l,T⟩:=k2v (b:=b) (w:=w) (size:=de.size) (Q:=fun c y=>(∀ j v z,c[j]?=some v->y.cells[j]?=some z->RF S w v z)/\(∀ u∈c,u.oneCell'=true)) (y0::ys) off fun i y hy=>(by obtain ⟨b',o',hA,_,l⟩:=ha i y hy;injection hA with hA;injection hA with e1 e2;subst e1 e2;obtain ⟨l1,l2,l3⟩:=hl i y hy;refine ⟨css i,l,l1,fun j v z hv o=>hr i y j v z hy hv o,fun u hu=>?_⟩;obtain ⟨j,D,rfl⟩:=qal.1 hu;have E:j<y.cells.length:=(by omega);exact (hr i y j _ _ hy (qb D) (qb E)).one (l3 _ (qn E)));have h1:∀ u∈news,u.oneCell'=true:=(by intro u hu;obtain ⟨j,D,rfl⟩:=qal.1 hu;have R:j / de.size<(y0::ys).length:=(by rw [Nat.div_lt_iff_lt_mul o];omega);refine (T (j / de.size) _ (qb R)).2 _ ?_;rw [qaz];refine ⟨j % de.size,?_⟩;rw [qad,ql (Nat.mod_lt _ o),qau,show j / de.size*de.size+j % de.size=j by rw [Nat.mul_comm];exact Nat.div_add_mod j de.size];exact qb D);obtain ⟨v',w',d,G,L,U,M⟩:=run_append_own_at (P:=P) w 0 t ty e i z de.size de.bytes ht hi r p q B o v n cs a ⟨b,off,none⟩ (y0::ys).length cap news hn
      (fun j u h=>by rw [kcc];exact l j u h) h1 (by unfold maxLen;omega) f (by omega)
    refine ⟨v',w',news,d,G,L,M,hn,fun i x j v y F hv hy=>?_,k,fun h=>by cases h⟩;have D:j<de.size:=(by have:=(qh.1 hy).1;rw [(k x (qp F)).1] at this;exact this);refine (T i x F).1 j v y ?_ hy;rw [qad,ql D,qau];exact hv
theorem k9x {v:Value} {e:TypeId} {size n:Nat} {cs:List Value} (h:w.ownsRow 0 e size v n cs):kau v=v.ownBlock:=by rcases h.2 with ⟨rfl,_⟩ | ⟨g,cap,cur,rfl,_⟩ <;> rfl
theorem k8z {v:Value} {e:TypeId} {size n b:Nat} {cs:List Value} (h:w.ownsRow 0 e size v n cs) (a:v.ownBlock=some b):Blk v b := .of (by rw [k9x h];exact a)
theorem kaio {v:Value} {e:TypeId} {size n b:Nat} {cs:List Value} (h:w.ownsRow 0 e size v n cs) (a:Blk v b):v.ownBlock=some b:=by rw [<- k9x h];rcases h.2 with ⟨rfl,_⟩ | ⟨g,cap,cur,rfl,_⟩ <;> exact a.sl
theorem k2b {v:Value} {e:TypeId} {size n:Nat} {cs:List Value} (h:w.ownsRow 0 e size v n cs):v.oneCell'=true:=by rcases h.2 with ⟨rfl,_⟩ | ⟨g,cap,cur,rfl,_⟩ <;> rfl
theorem kae2 {x y:Operand} {e:TypeId} {de:TD} {n m:Nat} (xs zs:List FV) (ho:o.op = .call { callee := .builtin .append,args:=#[x,y],argTypes:=#[t,t] }) (Z:TdOk P t d) (hk:d.kind = .slice e) (L:TdOk P e de) (M:0<de.size) (N:de.zero.length=de.size) (hx:st.eval x = .row id n) (B:kad st.heap id=some (.frow e de.size xs)) (hn:n=xs.length) (hy:st.eval y = .fz (.lst de.size m zs)\/st.eval y = .lim de.size m zs) (C:(xs.length+zs.length)*(de.bytes+1)<=140737488355328):
    StepA P o st (.row id (xs++zs).length) ((id, .frow e de.size (xs++zs))::st.heap) st.ids:=by
  subst hn;intro F S0 N0 ψ S a w q;have l:=q.core;obtain ⟨O,⟨h0,D,cs,g,E,hr⟩,Q⟩:=l.obj id _ B;have hv:=q.eval x;rw [hx] at hv;have R:a.eval x=ψ.val id:=by
    generalize a.eval x=u at hv;cases hv with
    | row hK hn h1 hv=>exact hv h0.symm
  have T:RF S w (a.eval y) (.lst de.size m zs):=by
    have hv:=q.eval y;rcases hy with hy | hy
    · rw [hy] at hv;exact hv.inv
    · rw [hy] at hv
      generalize a.eval y=u at hv;cases hv with
      | lim h=>exact h
  have r:=C;rw [Nat.mul_add,qbh] at r;obtain ⟨v',w',news,G,f,c,H,aa,U,I,J⟩:=kajp o.type (Z.slice hk) L M N g T (by omega) (by omega);have V:(xs++zs).length=xs.length+zs.length:=qac;have K:ψ.len id<(xs++zs).length\/(ψ.len id=(xs++zs).length/\v'=ψ.val id):=by
    by_cases s:zs=[]
    · refine .inr ⟨by rw [h0,s];simp,J s⟩
    · have:0<zs.length:=List.length_pos_iff.2 s
      exact .inl (by omega)
  have p:∀ k,k<w.heap.size->¬ Blk (ψ.val id) k->w'.heap[k]?=w.heap[k]?:=fun k hk X=>c.block k hk fun e=>X (k8z g e.symm);have Y:Same S w w':=fun k hk hl=>p k hl fun e=>(Q k e).1 hk;obtain ⟨c1,c2,c3⟩:=l.upd (n:=(xs++zs).length) (v:=v') (w':=w') (ob' := .frow e de.size (xs++zs)) B c.size p K (fun b A=>by
      have A:=kaio f A;rcases H with h | h
      · exact .inl (k8z g (h ▸ A))
      · rw [h] at A;injection A with A;exact .inr (by omega))
    ⟨kcl _ _,D,cs++news,by rw [kap,V];exact f,fun z M=>(qak.1 M).elim (E z) (I z),(RowR.append D (fun i x j v y h1 h2 h3=>hr i x j v y h1 h2 h3) U g.1 E).keep Y⟩
  refine kah w' v' ?_ ⟨_,S,c1, .row O (by rw [kcl];exact qx _) (k2b f) (fun _=>(kap _ _).symm),⟨c.os,c.tape,c.output,c.size,c3⟩,ku3 K,fun _ h=>h,fun _ h=>h,c2⟩;simp only [execOp,ho,resolve,invoke,builtin,Sem.run_bind,Sem.run_pure,Result.andThen_ok,List.map_toArray,qa2,List.map_nil,R,G]
theorem kj4 (id:Nat) (e:TypeId) (size t:Nat) (d:st.get t = .fz (.atom (.slice none 0 0)):=by kernel_rfl) (c:st.ids.contains id=false:=by kernel_rfl) (f:0<size:=by decide):
    LeSt st { st with tmps:=(t, .row id 0)::st.tmps,heap:=(id, .frow e size [])::st.heap,ids:=id::st.ids }:=by
  have c:id∉st.ids:=by simpa using c
  intro F S0 N0 ψ S a w hs;have hadd:=hs.core.add (n:=0) (v := .slice none 0 0) (w':=w) (ob := .frow e size []) (kaj _) c (fun b g=>by cases g) ⟨kcl _ _,f,[],by rw [kap];exact ⟨by simp, .inl ⟨rfl,rfl⟩⟩,(fun x d=>by cases d),fun i x j v y h=>by simp at h⟩;refine ⟨ψ.set id 0 (.slice none 0 0),S,hs.defers,hs.size,fun k=>?_,hadd⟩;simp only [St.get,kbf];split
  · rename_i hk
    subst hk;have:=hs.tmps t;rw [d] at this;rw [this.atom];exact .row (qo ..) (qao _) rfl fun _=>(kap _ _).symm
  · exact (hs.tmps k).keep (kb5 c _ _) (fun _ h=>qk _ h) (fun _ h=>h) (fun _ _ _=>rfl)
end
abbrev Res:=Option (AV×List (Nat×AObj)×List Nat)
def fresh (l:List Nat):Nat:=l.foldl Nat.max 0+1
def nres (st:St) (c:Option AV):Res:=match c with
  | some c=>some (c,st.heap,st.ids)
  | none=>none
def kqr (T:List (TypeId×TD)) (t:TypeId):Bool:=match kag T t with
  | some d=>match d.kind with
    | .bool=>true
    | _=>false
  | none=>false
def lenX (T:List (TypeId×TD)) (st:St) (x:Operand) (t:TypeId):Option AV:=match kag T t with
  | some d=>match d.kind,st.eval x with
    | .slice _,x=>match lenOf x with
      | some n=>some (.fz (.atom (.int .i64 n)))
      | none=>none
    | .str, .fz (.atom (.string s))=>some (.fz (.atom (.int .i64 s.size)))
    | _,_=>none
  | none=>none
def fldX (T:List (TypeId×TD)) (st:St) (s:TypeId) (x:Operand) (f:Nat):Option AV:=match kag T s with
  | some d=>match d.kind with
    | .st fs=>match fs[f]? with
      | some (ft,off)=>match kag T ft with
        | some df=>bif Nat.beq df.size 0 then none else kq6 st off (st.eval x)
        | none=>none
      | none=>none
    | _=>none
  | none=>none
def litX (T:List (TypeId×TD)) (st:St) (t:TypeId) (n:Nat) (parts:Array (Nat×Operand)):Option AV:=match kag T t with
  | some d=>match d.kind with
    | .slice e=>match kag T e with
      | some de=>match kp4 de.size 0 (ke2 st parts) with
        | some xs=>bif Nat.beq xs.length n && (Nat.ble 1 de.size && Nat.ble (n*de.size) 16777216) then some (.lim de.size n xs) else none
        | none=>none
      | none=>none
    | _=>none
  | none=>none
def boxX (e:TypeId) (st:St) (cells:List AV):Res:=bif cells.all AV.single && !st.ids.contains (fresh st.ids) then some (.ref (fresh st.ids) 0 0,(fresh st.ids, .box e cells)::st.heap,fresh st.ids::st.ids) else none
def kxe (T:List (TypeId×TD)) (st:St) (t:TypeId) (x y:Operand):Res:=match kag T t,st.eval x with
  | some d, .ref id n off=>match kad st.heap id with
    | some (.box e cells)=>bif Nat.beq n 0 && (Nat.beq (st.eval y).cells.length d.size && ((st.eval y).cells.all AV.single && Nat.ble (off+(st.eval y).cells.length) cells.length)) then some (.any,(id, .box e (kd2 cells off (st.eval y).cells))::st.heap,st.ids) else none
    | _=>none
  | _,_=>none
def k0q (T:List (TypeId×TD)) (o:Oper) (st:St):Option AV:=match o.op with
  | .move x=>some (st.eval x)
  | .assign x=>some (st.eval x)
  | .pick c x y=>match st.eval c with
    | .fz (.atom (.bool b))=>some (bif b then st.eval x else st.eval y)
    | _=>none
  | .binOp op t x y _=>match st.eval x,st.eval y with
    | .fz (.atom u), .fz (.atom v)=>match binV (kqr T t) op u v with
      | some r=>some (.fz (.atom r))
      | none=>none
    | _,_=>none
  | .unOp op _ x=>match st.eval x with
    | .fz (.atom u)=>match unV op u with
      | some r=>some (.fz (.atom r))
      | none=>none
    | _=>none
  | .load t x=>match kag T t,kpg st (st.eval x) with
    | some d,some xs=>koy d xs
    | _,_=>none
  | .fieldAddr s x f=>fldX T st s x f
  | .extract x i=>match st.eval x with | .fz (.tup xs)=>(xs[i]?).map .fz | .tup xs=>xs[i]? | _=>none
  | .nilCheck x=>kq6 st 0 (st.eval x)
  | .build t parts=>k6t T st t parts
  | .indexAddr t x y=>arrX T st t x y
  | .buildSlice t n parts=>litX T st t n parts
  | .call c=>match c.callee,c.args.toList,c.argTypes.toList with
    | .builtin .len,[x],[t]=>lenX T st x t
    | _,_,_=>none
  | .makeFunc (.func f) first cap=>bif first.isEmpty then some (.fn f (cap.toList.map st.eval)) else (bif cap.isEmpty then some (.mth f (first.toList.map st.eval)) else none)
  | _=>none
def kxw (T:List (TypeId×TD)) (o:Oper) (st:St):Res:=match o.op with
  | .box e x=>boxX e st (st.eval x).cells
  | .alloc e=>match kag T e with
    | some d=>match kti d with
      | some cells=>boxX e st cells
      | none=>none
    | none=>none
  | .store t x y=>kxe T st t x y
  | _=>nres st (k0q T o st)
theorem kadv {c0:Option AV} {c:AV} {h:List (Nat×AObj)} {i:List Nat} (hr:nres st c0=some (c,h,i)) (hn:∀ x,c0=some x->NStep P o st x):StepA P o st c h i:=by
  cases c0 with
  | none=>cases hr
  | some x=>
    simp only [nres,qe,qt] at hr;obtain ⟨rfl,rfl,rfl⟩:=hr;exact (hn x rfl).step
theorem kpa {α:Type} {xs:Array α} {x:α} (h:xs.toList=[x]):xs=#[x]:=by apply qbv;simpa using h
theorem knh (h:TOk P T) (c:AV) (a:k0q T o st=some c:=by kernel_rfl):NStep P o st c:=by
  unfold k0q at a;split at a
  · rename_i x ho;injection a with a;subst a;exact k0v (.inl ho)
  · rename_i x ho;injection a with a;subst a;exact k0v (.inr ho)
  · rename_i c x y ho
    split at a
    · rename_i b g
      injection a with a;subst a;exact kacz ho g
    · cases a
  · rename_i op t x y yt ho
    split at a
    · rename_i u v hu hv
      split at a
      · rename_i r hr
        injection a with a;subst a;refine kabf (kqr T t) (fun g=>?_) ho hu hv hr;unfold kqr at g;split at g
        · rename_i d j
          split at g
          · rename_i hk
            obtain ⟨_,e,h1,m⟩:=h.get j;rw [hk] at m;cases e <;> simp [kic] at m;exact h1
          · cases g
        · cases g
      · cases a
    · cases a
  · rename_i op t x ho
    split at a
    · rename_i u hu
      split at a
      · rename_i r hr
        injection a with a;subst a;exact n_un ho hu hr
      · cases a
    · cases a
  · rename_i t x ho
    split at a
    · rename_i d xs j k
      exact kalt ho (h.get j) k a
    · cases a
  · rename_i s x f ho
    unfold fldX at a;split at a
    · rename_i d j
      split at a
      · rename_i fs hk
        split at a
        · rename_i ft off hf
          split at a
          · rename_i df q
            cases g:Nat.beq df.size 0 with
            | true=>rw [g] at a;cases a
            | false=>
              rw [g] at a;exact kaig ho (h.get j) hk hf (h.get q) (fun e=>by rw [e] at g;cases g) a
          · cases a
        · cases a
      · cases a
    · cases a
  · rename_i x i ho
    exact k3i ho a
  · rename_i x ho
    exact kaai ho a
  · rename_i t parts ho
    exact k8m h ho a
  · rename_i t x y ho
    exact n_arr h ho a
  · rename_i t n parts ho
    unfold litX at a;split at a
    · rename_i d j
      split at a
      · rename_i e hk
        split at a
        · rename_i de w
          split at a
          · rename_i xs k
            cases g:(Nat.beq xs.length n && (Nat.ble 1 de.size && Nat.ble (n*de.size) 16777216)) with
            | false=>rw [g] at a;cases a
            | true=>
              rw [g] at a;simp only [qd,qe] at a;subst a;simp only [qv] at g;exact kagv ho (h.get j) hk (h.get w) (qu g.2.1) (qm g.1) (qu g.2.2) k
          · cases a
        · cases a
      · cases a
    · cases a
  · rename_i c ho
    split at a
    · rename_i x t h1 m z
      have p:o.op = .call { callee := .builtin .len,args:=#[x],argTypes:=#[t] }:=(by obtain ⟨cl,as_,ts⟩:=c;simp only at h1 m z;rw [ho,h1,kpa m,kpa z]);unfold lenX at a;split at a
      · rename_i d j
        split at a
        · rename_i e hk
          split at a
          · rename_i n hn
            injection a with a;subst a;exact k12 p (h.get j) hk hn
          · cases a
        · rename_i s hk hv
          injection a with a;subst a;exact k3n p (h.get j) hk hv
        · cases a
      · cases a
    · cases a
  · rename_i f first cap ho
    cases g:first.isEmpty with
    | false=>
      rw [g] at a;cases l:cap.isEmpty with
      | false=>rw [l] at a;cases a
      | true=>
        rw [l] at a;have:cap=#[]:=(by simpa using l);subst this;simp only [qc,qd,qe] at a;subst a;exact kagr ho
    | true=>
      rw [g] at a;have:first=#[]:=by simpa using g
      subst this;simp only [qd,qe] at a;subst a;exact kad3 ho
  · cases a
theorem k6q (f:TOk P T) {c:AV} {h:List (Nat×AObj)} {i:List Nat} (a:kxw T o st=some (c,h,i)):StepA P o st c h i:=by
  unfold kxw at a;split at a
  · rename_i e x ho
    unfold boxX at a;cases b:((st.eval x).cells.all AV.single && !st.ids.contains (Go.Proofs.YtjbonbdomgoklaaGreatDoor.fresh st.ids)) with
    | false=>rw [b] at a;cases a
    | true=>
      rw [b] at a;simp only [qd,qe,qt] at a;obtain ⟨rfl,rfl,rfl⟩:=a;simp only [qv,qcb] at b;exact kagw ho rfl b.1 b.2
  · rename_i e ho
    split at a
    · rename_i d g
      split at a
      · rename_i cells j
        unfold boxX at a;cases b:(cells.all AV.single && !st.ids.contains (Go.Proofs.YtjbonbdomgoklaaGreatDoor.fresh st.ids)) with
        | false=>rw [b] at a;cases a
        | true=>
          rw [b] at a;simp only [qd,qe,qt] at a;obtain ⟨rfl,rfl,rfl⟩:=a;simp only [qv,qcb] at b;exact k2c ho (f.get g) j b.2
      · cases a
    · cases a
  · rename_i t x y ho
    unfold kxe at a;split at a
    · rename_i d id n off g k
      split at a
      · rename_i e cells l
        cases b:(Nat.beq n 0 && (Nat.beq (st.eval y).cells.length d.size && ((st.eval y).cells.all AV.single && Nat.ble (off+(st.eval y).cells.length) cells.length))) with
        | false=>rw [b] at a;cases a
        | true=>
          rw [b] at a;simp only [qd,qe,qt] at a;obtain ⟨rfl,rfl,rfl⟩:=a;simp only [qv] at b;obtain ⟨b1,b2,b3,b4⟩:=b;obtain rfl:=qm b1;exact k8n ho (f.get g) k l rfl (qm b2) b3 (qu b4)
      · cases a
    · cases a
  · exact kadv a fun z j=>knh f _ (a:=j)
def kvh (st:St) (o:Oper):Bool:=match o.dst with
  | some t=>Nat.blt t st.n
  | none=>true
theorem kpp {st:St} {o:Oper} (h:kvh st o=true):∀ t,o.dst=some t->t<st.n:=fun t ht=>by unfold kvh at h;rw [ht] at h;exact of_decide_eq_true (by simpa [Nat.blt_eq] using h)
inductive C0 where
  | keep
  | zr
  | sl (size:Nat)
  | px
inductive C1 where
  | one (c:C0)
  | ag (l:List C0)
  | drop
def co0F:C0->FV->FV
  | .sl size, .atom (.slice none 0 0)=>bif Nat.ble 1 size then .lst size 0 [] else .atom (.slice none 0 0)
  | .px, .atom (.pointer none) => .bx []
  | _,x=>x
def co0:C0->AV->AV
  | c, .fz x => .fz (co0F c x)
  | .sl _, .lim s n xs => .fz (.lst s n xs)
  | .zr, .row id _ => .row id 0
  | _,x=>x
def zipF:List C0->List FV->List FV
  | c::l,x::xs=>co0F c x::zipF l xs
  | _,xs=>xs
def zip0:List C0->List AV->List AV
  | c::l,x::xs=>co0 c x::zip0 l xs
  | _,xs=>xs
def co1:C1->AV->AV
  | .one c,x=>co0 c x
  | .ag l, .fz (.agg xs) => .fz (.agg (zipF l xs))
  | .ag l, .agg xs=>aggA (zip0 l xs)
  | .ag _,x=>x
  | .drop,_ => .any
def ok0 (ids:List Nat):AV->Bool
  | .fz _=>true
  | .ref id _ _=>ids.contains id
  | .row id _=>ids.contains id
  | .mp id=>ids.contains id
  | .opt id=>ids.contains id
  | .sdp id _=>ids.contains id
  | .win id _ _ _=>ids.contains id
  | .irow id _ _=>ids.contains id
  | .iref id _ _ _=>ids.contains id
  | .lim _ _ _=>true
  | .any=>true
  | _=>false
def ok1 (ids:List Nat):AV->Bool
  | .agg cs=>cs.all (ok0 ids)
  | .tup cs=>cs.all (ok0 ids)
  | .fn _ cs=>cs.all (ok0 ids)
  | .mth _ cs=>cs.all (ok0 ids)
  | x=>ok0 ids x
def ku6 (st:St) (ids:List Nat):List (Nat×C1)->Option (List (Nat×AV))
  | []=>some []
  | (t,c)::l=>match ok1 ids (co1 c (st.get t)),ku6 st ids l with
    | true,some r=>some ((t,co1 c (st.get t))::r)
    | _,_=>none
def ku4 (st:St) (ids:List Nat):List (Nat×List C0)->Option (List (Nat×AObj))
  | []=>some []
  | (id,l)::r=>match kad st.heap id,ku4 st ids r with
    | some (.box e cells),some r'=>bif ids.contains id && (zip0 l cells).all (ok1 ids) then some ((id, .box e (zip0 l cells))::r') else none
    | some (.frow e s xs),some r'=>bif ids.contains id then some ((id, .frow e s xs)::r') else none
    | some (.gho cs vs),some r'=>bif ids.contains id && vs.all (ok1 ids) then some ((id, .gho cs vs)::r') else none
    | some (.was ψ0 ids0 S0 w0),some r'=>bif ids.contains id && ids0.all ids.contains then some ((id, .was ψ0 ids0 S0 w0)::r') else none
    | some (.smap kv),some r'=>bif ids.contains id then some ((id, .smap kv)::r') else none
    | some (.tab g ov eo ei rows),some r'=>bif ids.contains id then some ((id, .tab g ov eo ei rows)::r') else none
    | some (.glb gs),some r'=>bif ids.contains id then some ((id, .glb gs)::r') else none
    | some (.sit s pos),some r'=>bif ids.contains id then some ((id, .sit s pos)::r') else none
    | some (.memo Φ h),some r'=>bif ids.contains id then some ((id, .memo Φ none)::r') else none
    | some (.xo (.imap kv)),some r'=>bif ids.contains id then some ((id, .xo (.imap kv))::r') else none
    | _,_=>none
def coSt (st:St) (ids:List Nat) (ts:List (Nat×C1)) (os:List (Nat×List C0)):Option St:=match ids.all st.ids.contains,ku6 st ids ts,ku4 st ids os with
  | true,some tmps,some heap=>some { n:=st.n,tmps:=tmps,heap:=heap,ids:=ids,dfr:=st.dfr }
  | _,_,_=>none
variable {F S0:Nat->Prop} {N0:Nat} {K':Nat->Prop} {ids:List Nat}
theorem k8x {c:C0} {v:Value} {x:FV} (h:RF S w v x):RF S w v (co0F c x):=by
  unfold co0F;split
  · rename_i size
    cases b:Nat.ble 1 size with
    | false=>exact h
    | true=>
      rw [h.atom_eq];exact .lst (A:=none) (cap:=0) (xs:=[]) (fun _=>[]) rfl (qx _) (by omega) (qu b) (fun i x a=>by simp at a) (fun i x a=>by simp at a) (fun i x j v y a=>by simp at a)
  · rw [h.atom_eq]
    exact .bn
  · exact h
theorem ky1 {c:C0} {x:FV} (h:x.single=true):(co0F c x).single=true:=by
  unfold co0F;split
  · rename_i size
    cases a:Nat.ble 1 size <;> rfl
  · rfl
  · exact h
theorem kadr {c:C0} {v:Value} {x:AV} (h:RV ψ K S w v x):RV ψ K S w v (co0 c x):=by
  unfold co0;split
  · exact .fz (k8x h.inv)
  · cases h with | lim h=>exact .fz h
  · cases h with | row hK hn h1 hv=>exact .row hK (qao _) h1 fun h=>hv (by omega)
  · exact h
theorem k97 {c:C0} {x:AV} (h:x.single=true):(co0 c x).single=true:=by
  unfold co0;split
  · exact ky1 h
  · rfl
  · rfl
  · exact h
theorem kzi:∀ (l:List C0) (xs:List FV) (i:Nat) (y:FV),(zipF l xs)[i]?=some y->∃ c x,xs[i]?=some x/\(y=co0F c x\/y=x)
  | [],xs,i,y,h=>⟨.keep,y,by cases xs <;> exact h, .inr rfl⟩
  | c::l,[],i,y,h=>by simp [zipF] at h
  | c::l,x::xs,0,y,h=>by simp [zipF] at h;exact ⟨c,x,rfl, .inl h.symm⟩
  | c::l,x::xs,i+1,y,h=>by simp only [zipF,qa4] at h ⊢;exact kzi l xs i y h
theorem k56:∀ (l:List C0) (xs:List FV),(zipF l xs).length=xs.length
  | [],xs=>by cases xs <;> rfl
  | c::l,[]=>rfl
  | c::l,x::xs=>by simp [zipF,k56 l xs]
theorem ky6:∀ (l:List C0) (xs:List AV) (i:Nat) (y:AV),(zip0 l xs)[i]?=some y->∃ c x,xs[i]?=some x/\(y=co0 c x\/y=x)
  | [],xs,i,y,h=>⟨.keep,y,by cases xs <;> exact h, .inr rfl⟩
  | c::l,[],i,y,h=>by simp [zip0] at h
  | c::l,x::xs,0,y,h=>by simp [zip0] at h;exact ⟨c,x,rfl, .inl h.symm⟩
  | c::l,x::xs,i+1,y,h=>by simp only [zip0,qa4] at h ⊢;exact ky6 l xs i y h
theorem kzg:∀ (l:List C0) (xs:List AV),(zip0 l xs).length=xs.length
  | [],xs=>by cases xs <;> rfl
  | c::l,[]=>rfl
  | c::l,x::xs=>by simp [zip0,kzg l xs]
theorem k9w (l:List C0) {cs:Array Value} {xs:List AV} (h1:∀ x∈xs,x.single=true) (hr:∀ (i:Nat) (v:Value) (x:AV),cs[i]?=some v->xs[i]?=some x->RV ψ K S w v x):
    (∀ x∈zip0 l xs,x.single=true)/\∀ (i:Nat) (v:Value) (x:AV),cs[i]?=some v->(zip0 l xs)[i]?=some x->RV ψ K S w v x:=by
  refine ⟨fun x a=>?_,fun i v x hv a=>?_⟩
  · obtain ⟨i,hi⟩:=qaz.1 a
    obtain ⟨c,y,hy,b⟩:=ky6 l xs i x hi;have:=h1 y (qp hy);rcases b with rfl | rfl
    · exact k97 this
    · exact this
  · obtain ⟨c,y,hy,b⟩:=ky6 l xs i x a
    have:=hr i v y hv hy;rcases b with rfl | rfl
    · exact kadr this
    · exact this
theorem kut (c:C1) {v:Value} {x:AV} (h:RV ψ K S w v x):RV ψ K S w v (co1 c x):=by
  unfold co1;split
  · exact kadr h
  · rename_i l xs
    have h:=h.inv;cases h with
    | agg hs h1 hr=>
      refine .fz (.agg (by rw [k56];exact hs) (fun y hy=>?_) fun i v y hv hy=>?_)
      · obtain ⟨i,hi⟩:=qaz.1 hy
        obtain ⟨c,z,a,b⟩:=kzi l xs i y hi;have:=h1 z (qp a);rcases b with rfl | rfl
        · exact ky1 this
        · exact this
      · obtain ⟨c,z,a,b⟩:=kzi l xs i y hy
        have:=hr i v z hv a;rcases b with rfl | rfl
        · exact k8x this
        · exact this
  · rename_i l xs
    cases h with
    | agg hs h1 hr=>
      obtain ⟨z1,z2⟩:=k9w l h1 hr;exact RV.aggA (by rw [kzg];exact hs) z1 z2
  · exact h
  · exact .any
theorem RV.sub0 {v:Value} {x:AV} (h:RV ψ K S w v x) (ho:ok0 ids x=true):RV ψ (·∈ids) S w v x:=by
  cases h with
  | fz h=>exact .fz h
  | agg=>cases ho
  | tup=>cases ho
  | ref hK hn h1 hv=>exact .ref (by simpa [ok0] using ho) hn h1 hv
  | row hK hn h1 hv=>exact .row (by simpa [ok0] using ho) hn h1 hv
  | lim h=>exact .lim h
  | mp hK h1 hv=>exact .mp (by simpa [ok0] using ho) h1 hv
  | opt hK h1 hv=>exact .opt (by simpa [ok0] using ho) h1 hv
  | sdp hK hn h1 hv=>exact .sdp (by simpa [ok0] using ho) hn h1 hv
  | win hK hn h1 hv=>exact .win (by simpa [ok0] using ho) hn h1 hv
  | irow hK hn h1 hv=>exact .irow (by simpa [ok0] using ho) hn h1 hv
  | iref hK hn h1 hv=>exact .iref (by simpa [ok0] using ho) hn h1 hv
  | bsl=>cases ho
  | fn=>cases ho
  | mth=>cases ho
  | any=>exact .any
theorem RV.sub1 {v:Value} {x:AV} (h:RV ψ K S w v x) (ho:ok1 ids x=true):RV ψ (·∈ids) S w v x:=by
  cases h with
  | fz h=>exact .fz h
  | agg hs h1 hr=>exact .agg hs h1 fun i v x hv a=>(hr i v x hv a).sub0 (qr.1 ho x (qp a))
  | tup hs hr=>exact .tup hs fun i v x hv a=>(hr i v x hv a).sub0 (qr.1 ho x (qp a))
  | ref hK hn h1 hv=>exact .ref (by simpa [ok1,ok0] using ho) hn h1 hv
  | row hK hn h1 hv=>exact .row (by simpa [ok1,ok0] using ho) hn h1 hv
  | lim h=>exact .lim h
  | mp hK h1 hv=>exact .mp (by simpa [ok1,ok0] using ho) h1 hv
  | opt hK h1 hv=>exact .opt (by simpa [ok1,ok0] using ho) h1 hv
  | sdp hK hn h1 hv=>exact .sdp (by simpa [ok1,ok0] using ho) hn h1 hv
  | win hK hn h1 hv=>exact .win (by simpa [ok1,ok0] using ho) hn h1 hv
  | irow hK hn h1 hv=>exact .irow (by simpa [ok1,ok0] using ho) hn h1 hv
  | iref hK hn h1 hv=>exact .iref (by simpa [ok1,ok0] using ho) hn h1 hv
  | bsl=>cases ho
  | fn hs hr=>exact .fn hs fun i v x hv a=>(hr i v x hv a).sub0 (qr.1 ho x (qp a))
  | mth hs hr=>exact .mth hs fun i v x hv a=>(hr i v x hv a).sub0 (qr.1 ho x (qp a))
  | any=>exact .any
theorem kvg:∀ {ts:List (Nat×C1)} {r:List (Nat×AV)} (t:Nat),ku6 st ids ts=some r->look .any r t = .any\/∃ c,look .any r t=co1 c (st.get t)/\ok1 ids (co1 c (st.get t))=true
  | [],r,t,h=>by simp only [ku6,qe] at h;subst h;exact .inl rfl
  | (k,c)::l,r,t,h=>by
    simp only [ku6] at h;split at h
    · rename_i r' h1 a
      injection h with h;subst h;rw [kbf];by_cases hk:k=t
      · subst hk
        rw [ql rfl];exact .inr ⟨c,rfl,h1⟩
      · rw [qi hk]
        exact kvg t a
    · cases h
theorem kgu:∀ {os:List (Nat×List C0)} {r:List (Nat×AObj)} (id:Nat) (ob:AObj),ku4 st ids os=some r->kad r id=some ob->id∈ids /\
    ((∃ l e cells,kad st.heap id=some (.box e cells)/\ob = .box e (zip0 l cells)/\(zip0 l cells).all (ok1 ids)=true)\/(∃ e s xs,kad st.heap id=some (.frow e s xs)/\ob = .frow e s xs)\/(∃ cs vs,kad st.heap id=some (.gho cs vs)/\ob = .gho cs vs/\vs.all (ok1 ids)=true) \/
      (∃ ψ0 ids0 S0 w0,kad st.heap id=some (.was ψ0 ids0 S0 w0)/\ob = .was ψ0 ids0 S0 w0/\ids0.all ids.contains=true)\/(∃ kv,kad st.heap id=some (.smap kv)/\ob = .smap kv)\/(∃ g ov eo ei rows,kad st.heap id=some (.tab g ov eo ei rows)/\ob = .tab g ov eo ei rows)\/(∃ gs,kad st.heap id=some (.glb gs)/\ob = .glb gs)\/(∃ s pos,kad st.heap id=some (.sit s pos)/\ob = .sit s pos)\/(∃ Φ h,kad st.heap id=some (.memo Φ h)/\ob = .memo Φ none)\/∃ kv,kad st.heap id=some (.xo (.imap kv))/\ob = .xo (.imap kv))
  | [],r,id,ob,h,ho=>by simp only [ku4,qe] at h;subst h;cases ho
  | (k,l)::os,r,id,ob,h,ho=>by
    simp only [ku4] at h;split at h
    · rename_i e cells r' h1 b
      cases a:(ids.contains k && (zip0 l cells).all (ok1 ids)) with
      | false=>rw [a] at h;cases h
      | true=>
        rw [a] at h;simp only [qd,qe] at h;subst h;rw [kai] at ho;simp only [qv] at a;by_cases hk:k=id
        · subst hk
          rw [ql rfl] at ho;injection ho with ho;exact ⟨by simpa using a.1, .inl ⟨l,e,cells,h1,ho.symm,a.2⟩⟩
        · rw [qi hk] at ho
          exact kgu id ob b ho
    · rename_i e s xs r' h1 b
      cases a:ids.contains k with
      | false=>rw [a] at h;cases h
      | true=>
        rw [a] at h;simp only [qd,qe] at h;subst h;rw [kai] at ho;by_cases hk:k=id
        · subst hk
          rw [ql rfl] at ho;injection ho with ho;exact ⟨by simpa using a, .inr (.inl ⟨e,s,xs,h1,ho.symm⟩)⟩
        · rw [qi hk] at ho
          exact kgu id ob b ho
    · rename_i cs vs r' h1 b
      cases a:(ids.contains k && vs.all (ok1 ids)) with
      | false=>rw [a] at h;cases h
      | true=>
        rw [a] at h;simp only [qd,qe] at h;subst h;rw [kai] at ho;simp only [qv] at a;by_cases hk:k=id
        · subst hk
          rw [ql rfl] at ho;injection ho with ho;exact ⟨by simpa using a.1, .inr (.inr (.inl ⟨cs,vs,h1,ho.symm,a.2⟩))⟩
        · rw [qi hk] at ho
          exact kgu id ob b ho
    · rename_i ψ0 ids0 S0 w0 r' h1 b
      cases a:(ids.contains k && ids0.all ids.contains) with
      | false=>rw [a] at h;cases h
      | true=>
        rw [a] at h;simp only [qd,qe] at h;subst h;rw [kai] at ho;simp only [qv] at a;by_cases hk:k=id
        · subst hk
          rw [ql rfl] at ho;injection ho with ho;exact ⟨by simpa using a.1, .inr (.inr (.inr (.inl ⟨ψ0,ids0,S0,w0,h1,ho.symm,a.2⟩)))⟩
        · rw [qi hk] at ho
          exact kgu id ob b ho
    · rename_i kv r' h1 b
      cases a:ids.contains k with
      | false=>rw [a] at h;cases h
      | true=>
        rw [a] at h;simp only [qd,qe] at h;subst h;rw [kai] at ho;by_cases hk:k=id
        · subst hk
          rw [ql rfl] at ho;injection ho with ho;exact ⟨by simpa using a, .inr (.inr (.inr (.inr (.inl ⟨kv,h1,ho.symm⟩))))⟩
        · rw [qi hk] at ho
          exact kgu id ob b ho
    · rename_i g ov eo ei rows r' h1 b
      cases a:ids.contains k with
      | false=>rw [a] at h;cases h
      | true=>
        rw [a] at h;simp only [qd,qe] at h;subst h;rw [kai] at ho;by_cases hk:k=id
        · subst hk
          rw [ql rfl] at ho;injection ho with ho;exact ⟨by simpa using a, .inr (.inr (.inr (.inr (.inr (.inl ⟨g,ov,eo,ei,rows,h1,ho.symm⟩)))))⟩
        · rw [qi hk] at ho
          exact kgu id ob b ho
    · rename_i gs r' h1 b
      cases a:ids.contains k with
      | false=>rw [a] at h;cases h
      | true=>
        rw [a] at h;simp only [qd,qe] at h;subst h;rw [kai] at ho;by_cases hk:k=id
        · subst hk
          rw [ql rfl] at ho;injection ho with ho;exact ⟨by simpa using a, .inr (.inr (.inr (.inr (.inr (.inr (.inl ⟨gs,h1,ho.symm⟩))))))⟩
        · rw [qi hk] at ho
          exact kgu id ob b ho
    · rename_i s pos r' h1 b
      cases a:ids.contains k with
      | false=>rw [a] at h;cases h
      | true=>
        rw [a] at h;simp only [qd,qe] at h;subst h;rw [kai] at ho;by_cases hk:k=id
        · subst hk
          rw [ql rfl] at ho;injection ho with ho;exact ⟨by simpa using a, .inr (.inr (.inr (.inr (.inr (.inr (.inr (.inl ⟨s,pos,h1,ho.symm⟩)))))))⟩
        · rw [qi hk] at ho
          exact kgu id ob b ho
    · rename_i Φ c r' h1 b
      cases a:ids.contains k with
      | false=>rw [a] at h;cases h
      | true=>
        rw [a] at h;simp only [qd,qe] at h;subst h;rw [kai] at ho;by_cases hk:k=id
        · subst hk
          rw [ql rfl] at ho;injection ho with ho;exact ⟨by simpa using a, .inr (.inr (.inr (.inr (.inr (.inr (.inr (.inr (.inl ⟨Φ,c,h1,ho.symm⟩))))))))⟩
        · rw [qi hk] at ho
          exact kgu id ob b ho
    · rename_i kv r' h1 b
      cases a:ids.contains k with
      | false=>rw [a] at h;cases h
      | true=>
        rw [a] at h;simp only [qd,qe] at h;subst h;rw [kai] at ho;by_cases hk:k=id
        · subst hk
          rw [ql rfl] at ho;injection ho with ho;exact ⟨by simpa using a, .inr (.inr (.inr (.inr (.inr (.inr (.inr (.inr (.inr ⟨kv,h1,ho.symm⟩))))))))⟩
        · rw [qi hk] at ho
          exact kgu id ob b ho
    · cases h
theorem le_co {st':St} {ts:List (Nat×C1)} {os:List (Nat×List C0)} (h:coSt st ids ts os=some st'):LeSt st st':=by
  unfold coSt at h;split at h
  · rename_i tmps heap h1 u m
    injection h with h;subst h;intro F S0 N0 ψ S a w hs;refine ⟨ψ,S,hs.defers,hs.size,fun t=>?_,⟨fun id ob ho=>?_,fun id id' o o' b ho n p y=>?_,hs.core.lt,hs.core.s0,hs.core.n0,hs.core.fr⟩⟩
    · rcases kvg t u with h | ⟨c,h,hk⟩
      · show RV ψ _ S w _ (look .any tmps t)
        rw [h];exact .any
      · show RV ψ _ S w _ (look .any tmps t)
        rw [h];exact (kut _ (hs.tmps t)).sub1 hk
    · obtain ⟨f,q⟩:=kgu id ob m ho
      rcases q with ⟨l,e,cells,d,rfl,g⟩ | ⟨e,s,xs,d,rfl⟩ | ⟨cs,vs,d,rfl,g⟩ | ⟨ψ0,ids0,S0,w0,d,rfl,g⟩ | ⟨kv,d,rfl⟩ | ⟨_,_,_,_,_,d,rfl⟩ | ⟨_,d,rfl⟩ | ⟨_,_,d,rfl⟩ | ⟨_,_,d,rfl⟩ | ⟨_,d,rfl⟩
      · obtain ⟨_,⟨k0,b,cs,k1,k2,k3,k4,k5⟩,k6⟩:=hs.core.obj id _ d
        obtain ⟨z1,z2⟩:=k9w l k4 k5;exact ⟨f,⟨k0,b,cs,k1,k2,by rw [kzg];exact k3,z1,fun i v x hv j=>(z2 i v x hv j).sub1 (qr.1 g x (qp j))⟩,k6⟩
      · obtain ⟨_,k,k6⟩:=hs.core.obj id _ d
        exact ⟨f,k,k6⟩
      · obtain ⟨_,⟨k0,k1,kn,k3⟩,k6⟩:=hs.core.obj id _ d
        exact ⟨f,⟨k0,k1,kn,fun i v x hv j=>(k3 i v x hv j).sub1 (qr.1 g x (qp j))⟩,k6⟩
      · obtain ⟨_,⟨k0,k1,kn,k2,k3,k4,k5⟩,k6⟩:=hs.core.obj id _ d
        exact ⟨f,⟨k0,k1,kn,k2,fun i hi=>by simpa using qr.1 g i hi,k4,k5⟩,k6⟩
      · obtain ⟨_,k,k6⟩:=hs.core.obj id _ d
        exact ⟨f,k,k6⟩
      · obtain ⟨_,k,k6⟩:=hs.core.obj id _ d
        exact ⟨f,k,k6⟩
      · obtain ⟨_,k,k6⟩:=hs.core.obj id _ d
        exact ⟨f,k,k6⟩
      · obtain ⟨_,k,k6⟩:=hs.core.obj id _ d
        exact ⟨f,k,k6⟩
      · obtain ⟨_,⟨k0,b,es,cl,k1,k2,k3⟩,k6⟩:=hs.core.obj id _ d
        exact ⟨f,⟨k0,b,es,cl,k1,k2,k3.1,trivial⟩,k6⟩
      · obtain ⟨_,k,k6⟩:=hs.core.obj id _ d
        exact ⟨f,k,k6⟩
    · obtain ⟨_,q⟩:=kgu id o m ho
      obtain ⟨_,r⟩:=kgu id' o' m n;have k1:∃ o,kad st.heap id=some o:=(by rcases q with ⟨l,_,cells,d,_⟩ | ⟨e,s,xs,d,_⟩ | ⟨cs,vs,d,_⟩ | ⟨_,_,_,_,d,_⟩ | ⟨_,d,_⟩ | ⟨_,_,_,_,_,d,_⟩ | ⟨_,d,_⟩ | ⟨_,_,d,_⟩ | ⟨_,_,d,_⟩ | ⟨_,d,_⟩ <;> exact ⟨_,d⟩);have k2:∃ o,kad st.heap id'=some o:=(by rcases r with ⟨l,_,cells,d,_⟩ | ⟨e,s,xs,d,_⟩ | ⟨cs,vs,d,_⟩ | ⟨_,_,_,_,d,_⟩ | ⟨_,d,_⟩ | ⟨_,_,_,_,_,d,_⟩ | ⟨_,d,_⟩ | ⟨_,_,d,_⟩ | ⟨_,_,d,_⟩ | ⟨_,d,_⟩ <;> exact ⟨_,d⟩);obtain ⟨o1,k1⟩:=k1;obtain ⟨o2,k2⟩:=k2;exact hs.core.inj id id' o1 o2 b k1 k2 p y
  · cases h
def kdb (id:Nat):List (Nat×AObj)->List (Nat×AObj)
  | []=>[]
  | (k,v)::l=>bif Nat.beq k id then kdb id l else (k,v)::kdb id l
theorem kds (id:Nat):∀ {l:List (Nat×AObj)} {k:Nat} {ob:AObj},kad (kdb id l) k=some ob->k≠id/\kad l k=some ob
  | [],k,ob,h=>by cases h
  | (j,v)::l,k,ob,h=>by
    simp only [kdb] at h;cases a:Nat.beq j id with
    | true=>
      rw [a] at h;obtain rfl:=qm a;obtain ⟨h1,b⟩:=kds j h;refine ⟨h1,?_⟩;rw [kai,qi (Ne.symm h1)];exact b
    | false=>
      rw [a] at h;simp only [qc,kai] at h;rw [kai];by_cases hk:j=k
      · subst hk
        rw [ql rfl] at h ⊢;exact ⟨(fun e=>by subst e;rw [Nat.beq_refl] at a;cases a),h⟩
      · rw [qi hk] at h ⊢
        exact kds id h
theorem k1o {id:Nat}:∀ {l:List (Nat×AObj)} {k:Nat} {ob:AObj},k≠id->kad l k=some ob->kad (kdb id l) k=some ob
  | [],k,ob,_,h=>by cases h
  | (j,v)::l,k,ob,a,h=>by
    simp only [kdb];rw [kai] at h;by_cases b:j=k
    · subst b
      rw [ql rfl] at h;rw [Nat.beq_eq_false a];simp only [qc,kai];exact h
    · rw [qi b] at h
      have ih:=k1o a h;cases c:Nat.beq j id with
      | true=>exact ih
      | false=>
        simp only [qc,kai];rw [qi b];exact ih
theorem kq1 {heap:List (Nat×AObj)} {ids:List Nat} {id:Nat} {e:TypeId} {size:Nat} {xs:List FV} (h:Core F S0 N0 heap ids ψ S w) (ho:kad heap id=some (.frow e size xs)):
    Core F S0 N0 (kdb id heap) ids ψ (fun b=>S b\/kau (ψ.val id)=some b) w/\RF (fun b=>S b\/kau (ψ.val id)=some b) w (ψ.val id) (.lst size xs.length xs):=by
  obtain ⟨H,n,t⟩:=h.obj id _ ho;have p:=n;obtain ⟨h0,q,cs,f,z,hr⟩:=n;refine ⟨⟨fun k ob hk=>?_,fun k k' o o' b hk l m a B=>?_,fun b a=>?_,fun b a=>?_,h.n0,h.fr⟩,?_⟩
  · obtain ⟨m,hk⟩:=kds id hk
    obtain ⟨h1,I,G⟩:=h.obj k ob hk;refine ⟨h1,I.keep Ext.refl (fun _ h=>h) (fun b a => .inl a) (fun _ _ _=>rfl) ⟨rfl,rfl⟩ (fun _ _=>rfl),fun b a=>⟨fun hs=>?_,(G b a).2⟩⟩;rcases hs with hs | hs
    · exact (G b a).1 hs
    · exact h.inj k id ob _ b hk ho m a (.of hs)
  · obtain ⟨_,hk⟩:=kds id hk
    obtain ⟨_,l⟩:=kds id l;exact h.inj k k' o o' b hk l m a B
  · rcases a with a | a
    · exact h.lt b a
    · exact p.lt (.of a)
  · rcases a with a | a
    · exact h.s0 b a
    · exact (t b (.of a)).2.2
  · rcases f.2 with ⟨hv,C⟩ | ⟨g,cap,cur,hv,_,J,D,r,K,E⟩
    · have:xs=[]:=qbe C
      subst this;rw [hv];exact .lst (A:=none) (cap:=0) (xs:=[]) (fun _=>[]) rfl (qx _) (by omega) q (fun i x c=>by simp at c) (fun i x c=>by simp at c) (fun i x j v y c=>by simp at c)
    · rw [hv]
      have s:∀ i x,xs[i]?=some x->(i+1)*size<=cs.length:=fun i x c=>(by rw [f.1];exact qa1 _ (qh.1 c).1);refine .lst (fun i=>(cs.drop (i*size)).take size) rfl D (by unfold maxLen at r;exact r) q (fun i x c=>⟨g,0,rfl, .inr (by rfl),fun j u hu=>?_⟩) (fun i x c=>?_) fun i x j v y c d hy=>?_
      · rw [qad] at hu
        split at hu
        · rw [qau,<- E,qad] at hu
          split at hu
          · simp only [World.cell?,J,Nat.zero_add]
            simpa using hu
          · cases hu
        · cases hu
      · have:=s i x c
        rw [qbj] at this;exact ⟨by rw [qam,qa3];omega,z x (qp c)⟩
      · rw [qad] at d
        split at d
        · rw [qau] at d
          exact (hr i x j v y c d hy).mono fun _ h => .inl h
        · cases d
def PCall (P:Program) (f:FuncId) (args:List FV) (r:FV):Prop:=
  (∃ fn, P.funcs[f]? = some fn /\ fn.body.isNone = false /\ (fn.name == "runtime.NumGoroutine") = false) /\
  ∀ (S:Nat->Prop) (w:World) (vs:Array Value),vs.size=args.length->(∀ (i:Nat) (v:Value) (x:FV),vs[i]?=some v->args[i]?=some x->RF S w v x) ->
    Calls P f vs w fun e w'=>∃ v,e = .returned v/\RF (fun b=>S b\/w.heap.size<=b) w' v r/\Grow w w'
def kags (st:St) (c:C1) (x:Operand):Option FV:=match co1 c (st.eval x) with
  | .fz y=>some y
  | _=>none
def kuk (st:St):List C1->List Operand->Option (List FV)
  | [],[]=>some []
  | c::cs,x::xs=>match kags st c x,kuk st cs xs with
    | some y,some ys=>some (y::ys)
    | _,_=>none
  | _,_=>none
theorem k31 {ids:List Nat} (h:∀ t,RV ψ (·∈ids) S w (a.tmps.getD t undef) (st.get t)):∀ {cs:List C1} {xs:List Operand} {ys:List FV},kuk st cs xs=some ys ->
    ys.length=xs.length/\∀ (i:Nat) (x:Operand) (y:FV),xs[i]?=some x->ys[i]?=some y->RF S w (a.eval x) y
  | [],[],ys,h=>by simp only [kuk,qe] at h;subst h;exact ⟨rfl,fun i x y h=>by simp at h⟩
  | c::cs,x::xs,ys,b=>by
    simp only [kuk] at b;split at b
    · rename_i y ys' h1 e
      injection b with b;subst b;obtain ⟨e1,e2⟩:=k31 h e;refine ⟨by simp [e1],fun i x' y' d hy=>?_⟩;cases i with
      | zero=>
        simp at d hy;subst d hy;unfold kags at h1;have hv:=kut c (Sim.eval_tmps h x);split at h1
        · rename_i z f
          injection h1 with h1;subst h1;rw [f] at hv;exact hv.inv
        · cases h1
      | succ i=>exact e2 i x' y' (by simpa using d) (by simpa using hy)
    · cases b
  | [],_::_,ys,h=>by cases h
  | _::_,[],ys,h=>by cases h
theorem kacm {f : FuncId} {args : Array Operand} {ts : Array TypeId} (ho : o.op = .call { callee := .value (.func f), args := args, argTypes := ts }) (hf : ∃ fn, P.funcs[f]? = some fn /\ fn.body.isNone = false /\ (fn.name == "runtime.NumGoroutine") = false) :
    (execOp a.eval o).run P w = .ok (.enter f (args.map a.eval)) w:=by
  obtain ⟨fn,h1,c,d⟩:=hf;have b:fn.body≠none:=by intro h;rw [h] at c;cases c
  simp only [qaw,ne_eq] at d;simp [execOp,ho,resolve,Act.eval,Deferred.ofValue,invoke,callFunc,h1,b,d]
theorem kadw {f:FuncId} {args:Array Operand} {ts:Array TypeId} {cs:List C1} {ys:List FV} {r:FV} (ho:o.op = .call { callee := .value (.func f),args:=args,argTypes:=ts }) (hc:kuk st cs args.toList=some ys) (hp:PCall P f ys r):NStep P o st (.fz r):=by
  intro ψ S a w ht d;obtain ⟨e1,e2⟩:=k31 ht hc;unfold kf9;rw [kacm ho hp.1];refine (hp.2 S w (args.map a.eval) (by simp [e1]) fun i v x hv b=>?_).mono ?_
  · simp only [Array.getElem?_map,qw] at hv
    obtain ⟨y,hy,rfl⟩:=hv;exact e2 i y x (by simpa using hy) b
  · rintro e w' ⟨v,rfl,h1,c⟩
    exact ⟨v,rfl,c, .fz h1⟩
def resX (T:List (TypeId×TD)) (st:St) (r:ResultVar) (c:C1):Option FV:=match r with
  | .tmp t=>match co1 c (st.get t) with
    | .fz y=>some y
    | _=>none
  | .cell x t=>match kag T t,kpg st (st.get x) with
    | some d,some xs=>match koy d xs with
      | some z=>match co1 c z with
        | .fz y=>some y
        | _=>none
      | none=>none
    | _,_=>none
def kyl (T:List (TypeId×TD)) (st:St):List ResultVar->List C1->Option (List FV)
  | [],[]=>some []
  | r::rs,c::cs=>match resX T st r c,kyl T st rs cs with
    | some y,some ys=>some (y::ys)
    | _,_=>none
  | _,_=>none
def kaah (T:List (TypeId×TD)) (st:St) (rs:List ResultVar) (cs:List C1):Option FV:=match kyl T st rs cs with
  | some [y]=>some y
  | some ys=>some (.tup ys)
  | none=>none
def retX (T:List (TypeId×TD)) (st:St) (rs:List ResultVar) (cs:List C1):Option FV:=match st.dfr with
  | []=>kaah T st rs cs
  | _=>none
theorem k61 {T:List (TypeId×TD)} {st:St} {rs:List ResultVar} {cs:List C1} {y:FV} (h:retX T st rs cs=some y):st.dfr=[]/\kaah T st rs cs=some y:=by
  unfold retX at h;split at h
  · rename_i a;exact ⟨a,h⟩
  · cases h
theorem k9i {v:Value} {x:AV} {xs:List AV} {c:AV} (n:TdOk P t d) (hv:RV ψ (·∈st.ids) S w v x) (q:∀ id o,kad st.heap id=some o->ObR ψ (·∈st.ids) S w id o) (e:kpg st x=some xs) (hc:koy d xs=some c):
    ∃ ad u,v = .pointer (some ad)/\(loadVar t ad).run P w = .ok u w/\RV ψ (·∈st.ids) S w u c:=by
  obtain ⟨b,off,hv,cs,h,hl,h1,hr⟩:=kvt hv q e;unfold koy at hc;cases hk:d.kind.agg with
  | false=>
    rw [hk] at hc;simp only [qc] at hc;cases xs with
    | nil=>cases hc
    | cons y ys=>
      simp only [List.head?_cons,qe] at hc;subst hc;have k:cs[0]?=some (cs[0]'(by simp at hl;omega)):=qb _;have f:w.cell? ⟨b,off,none⟩=some (cs[0]'(by simp at hl;omega)):=(by simpa using h 0 _ k);exact ⟨_,cs[0]'(by simp at hl;omega),hv,by simp [loadVar,n.isAgg,hk,f],hr 0 _ y k rfl⟩
  | true=>
    rw [hk] at hc;simp only [qd] at hc;cases g:Nat.ble d.size xs.length with
    | false=>rw [g] at hc;cases hc
    | true=>
      rw [g] at hc;simp only [qd,qe] at hc;subst hc;have p:=qu g;have l:(cs.take d.size).length=d.size:=(by rw [qam];omega);have a:=run_loadCells_list (P:=P) w ⟨b,off,none⟩ (cs.take d.size) fun j v m=>by
        rw [qad] at m;split at m
        · rw [kcc];exact h j v m
        · cases m
      rw [l] at a;refine ⟨_, .agg (cs.take d.size).toArray,hv,by simp [loadVar,n.isAgg,hk,n.size,a],RV.aggA (by simp [hl]) (fun x e=>h1 x (qbd e)) fun i v x hv e=>?_⟩;simp only [qcd] at hv;rw [qad] at hv e;split at hv
      · rename_i hi;rw [ql hi] at e;exact hr i v x hv e
      · cases hv
def kkf (tmps:Array Value):ResultVar->Sem Value
  | .tmp t=>pure (tmps.getD t undef)
  | .cell x t=>do loadVar t (<- asAddr (tmps.getD x undef))
theorem k6j (f:TOk P T) (hs:Sim F S0 N0 st ψ S a w):∀ {rs:List ResultVar} {cs:List C1} {ys:List FV},kyl T st rs cs=some ys ->
    ∃ vs:List Value,(rs.mapM (kkf a.tmps)).run P w = .ok vs w/\vs.length=ys.length/\∀ (i:Nat) (v:Value) (y:FV),vs[i]?=some v->ys[i]?=some y->RF S w v y
  | [],[],ys,h=>by simp only [kyl,qe] at h;subst h;exact ⟨[],by simp,rfl,fun i v y h=>by simp at h⟩
  | r::rs,c::cs,ys,h=>by
    simp only [kyl] at h;split at h
    · rename_i y ys' h1 g
      injection h with h;subst h;obtain ⟨vs,k1,k2,k3⟩:=k6j f hs g;have key:∃ v,(kkf a.tmps r).run P w = .ok v w/\RF S w v y:=by
        unfold resX at h1;split at h1
        · rename_i t
          have hv:=kut c (hs.tmps t);split at h1
          · rename_i z b
            injection h1 with h1;subst h1;rw [b] at hv;exact ⟨_,rfl,hv.inv⟩
          · cases h1
        · rename_i x t
          split at h1
          · rename_i d xs j k
            split at h1
            · rename_i z b
              obtain ⟨ad,u,e1,e2,e3⟩:=k9i (f.get j) (hs.tmps x) (fun id o ho=>(hs.core.obj id o ho).2.1) k b;have hv:=kut c e3;split at h1
              · rename_i z' e
                injection h1 with h1;subst h1;rw [e] at hv;refine ⟨u,?_,hv.inv⟩;simp only [kkf,e1,asAddr,Sem.run_bind,Sem.run_pure,Result.andThen_ok,e2]
              · cases h1
            · cases h1
          · cases h1
      obtain ⟨v,e1,e2⟩:=key;refine ⟨v::vs,?_,by simp [k2],fun i v' y' hv hy=>?_⟩
      · rw [List.mapM_cons]
        simp only [Sem.run_bind,e1,Result.andThen_ok,k1,Sem.run_pure]
      · cases i with
        | zero=>simp at hv hy;subst hv hy;exact e2
        | succ i=>exact k3 i v' y' (by simpa using hv) (by simpa using hy)
    · cases h
  | [],_::_,ys,h=>by cases h
  | _::_,[],ys,h=>by cases h
theorem kai8 (c:TOk P T) (hs:Sim F S0 N0 st ψ S a w) {fn:Func} {cs:List C1} {y:FV} (h:retX T st fn.results.toList cs=some y):∃ v,(results fn a.tmps).run P w = .ok v w/\RF S w v y:=by
  replace h:=(k61 h).2;unfold kaah at h;have key:∀ ys,kyl T st fn.results.toList cs=some ys->∃ vs:List Value,(results fn a.tmps).run P w = .ok (if h:vs.length=1 then vs[0] else .tuple vs.toArray) w/\vs.length=ys.length/\∀ (i:Nat) (v:Value) (y:FV),vs[i]?=some v->ys[i]?=some y->RF S w v y:=fun ys hy=>by obtain ⟨vs,k1,k2,k3⟩:=k6j c hs hy;refine ⟨vs,?_,k2,k3⟩;unfold results;rw [Array.mapM_eq_mapM_toList];have hg:∀ (g:ResultVar->Sem Value),(∀ x,g x=kkf a.tmps x)->(fn.results.toList.mapM g).run P w = .ok vs w:=fun g hg=>(by rw [show g=kkf a.tmps from funext hg];exact k1);simp only [Sem.run_bind,Sem.run_map];rw [hg _ fun x=>by cases x <;> rfl];simp only [Result.andThen_ok,Sem.run_pure];simp
  split at h
  · rename_i z d
    injection h with h;subst h;obtain ⟨vs,k1,k2,k3⟩:=key _ d;have hl:vs.length=1:=(by simpa using k2);rw [dif_pos hl] at k1;exact ⟨_,k1,k3 0 _ _ (qb (by omega)) rfl⟩
  · rename_i ys b hy
    injection h with h;subst h;obtain ⟨vs,k1,k2,k3⟩:=key _ hy;have hl:¬ vs.length=1:=fun hl=>(by rw [k2] at hl;obtain ⟨z,rfl⟩:=List.length_eq_one_iff.1 hl;exact b z rfl);rw [dif_neg hl] at k1;exact ⟨_,k1, .tup (by simpa using k2) fun i v x hv e=>k3 i v x (by simpa using hv) e⟩
  · cases h
def krj:Nat->List FV->List (Nat×AV)
  | _,[]=>[]
  | i,x::l=>(i, .fz x)::krj (i+1) l
def retQ (T:List (TypeId×TD)) (rs:List ResultVar) (cs:List C1) (r:FV):Exit->St->Prop
  | .normal,st=>retX T st rs cs=some r
  | .ret,st=>retX T st rs cs=some r
  | _,_=>False
theorem k00:∀ (l:List FV) (i t:Nat),(look .any (krj i l) t = .any)\/∃ x,i<=t/\l[t - i]?=some x/\look .any (krj i l) t = .fz x
  | [],i,t => .inl rfl
  | x::l,i,t=>by
    simp only [krj,kbf];by_cases h:i=t
    · subst h
      exact .inr ⟨x,qx _,by simp,by simp⟩
    · rw [qi h]
      rcases k00 l (i+1) t with h1 | ⟨y,h1,a,b⟩
      · exact .inl h1
      · exact .inr ⟨y,by omega,by rw [show t - i=(t - (i+1))+1 by omega];simpa using a,b⟩
theorem k70 (p : TOk P T) {f : FuncId} {fn : Func} {c : Code} {args : List FV} {r : FV} (cs : List C1) (hf : P.funcs[f]? = some fn) (a : fn.body = some c) (hn : (fn.name == "runtime.NumGoroutine") = false) (i : Nat.ble args.length fn.ntmps = true)
    (h:awp P c { n:=fn.ntmps,tmps:=krj 0 args,heap:=[],ids:=[] } (retQ T fn.results.toList cs r)):PCall P f args r:=by
  have i:=qu i;refine ⟨⟨fn,hf,by rw [a];rfl,hn⟩,fun S w vs hs hr=>calls_of_wp hf a ?_⟩;have j:Sim (fun b=>b<w.heap.size) S w.heap.size { n:=fn.ntmps,tmps:=krj 0 args,heap:=[],ids:=[] } ⟨fun _=>0,fun _=>undef⟩ (fun b=>S b/\b<w.heap.size) { tmps:=vs++Array.replicate (fn.ntmps - vs.size) undef,defers:=[] } w:=by
    refine ⟨rfl,by simp;omega,fun t=>?_,⟨(fun id o ho=>nomatch ho),(fun id id' o o' b ho=>nomatch ho),fun b a=>a.2,fun b a => .inl a.1,qx _,fun b a=>a⟩⟩;show RV _ _ _ w _ (look .any (krj 0 args) t);rcases k00 args 0 t with h | ⟨x,_,h1,l⟩
    · rw [h];exact .any
    · rw [l]
      have d:t<vs.size:=(by rw [hs];have:=(qh.1 h1).1;omega);have:(vs++Array.replicate (fn.ntmps - vs.size) undef).getD t undef=vs[t]:=(by rw [qa7,qbp d];simp [d]);rw [this];exact .fz (hr t _ x (by simp [d]) (by simpa using h1)).bound
  refine wp_mono (h _ _ _ _ _ _ w j) ?_;rintro e a' w' ⟨st',ψ',S',g,l,m⟩;have fin:retX T st' fn.results.toList cs=some r->a'.defers=[]/\∃ v,(results fn a'.tmps).run P w' = .ok v w'/\∃ v',Ending.returned v = .returned v'/\RF (fun b=>S b\/w.heap.size<=b) w' v' r/\Grow w w':=fun g=>by obtain ⟨v,e1,e2⟩:=kai8 p l g;exact ⟨l.defers.trans (k61 g).1,v,e1,v,rfl,e2.mono l.core.s0,⟨m.os,m.tape,m.output,m.size,fun k hk=>m.block k hk⟩⟩
  cases e with
  | normal=>exact fin g
  | ret=>exact fin g
  | _=>exact g.elim
def hadd (fs:List (Nat×Option Nat×AV)) (p:Nat->Bool) (base:List (Nat×AV)):List (Nat×AV):=match fs with
  | []=>base
  | (j,some d,c)::l=>(d,bif p j then c else .any)::hadd l p base
  | (_,none,_)::l=>hadd l p base
def hst (st:St) (fs:List (Nat×Option Nat×AV)) (p:Nat->Bool):St:={ st with tmps:=hadd fs p st.tmps }
theorem kn5 (st:St) {ops:Array Oper} {g:Bool} (hs:∀ t,RV ψ K S w (a.tmps.getD t undef) (st.get t)) (h:kb9 ops st o=some g):Region.wanted o (yielded ops a.tmps)=g:=by
  unfold kb9 at h;unfold Region.wanted;split at h
  · rename_i hg
    rw [hg];injection h
  · rename_i j want hg
    rw [hg];split at h
    · rename_i t ht
      have hv:=hs t;split at h
      · rename_i b d
        rw [d] at hv;injection h with h;subst h;have hu:a.tmps.getD t undef = .bool b:=hv.atom;rw [qa7] at hu;have c:a.tmps[t]?=some (.bool b):=by
          cases c:a.tmps[t]? with
          | none=>rw [c] at hu;cases hu
          | some u=>rw [c] at hu;simp only [qaf] at hu;rw [hu]
        simp only [yielded,ht,qa,c];cases b <;> cases want <;> rfl
      · rename_i xs d
        rw [d] at hv;injection h with h;subst h;exact ky0 hv.inv ht
      · cases h
    · cases h
theorem ko2 {a:Act} (d:Option Nat) {v:Value} (n t:Nat) (hn:a.tmps.size=n) (c:∀ t,d=some t->t<n):(a.put d v).tmps.getD t undef=if d=some t then v else a.tmps.getD t undef:=by
  cases d with
  | none=>simp [Act.put]
  | some d=>
    have b:=c d rfl;by_cases h:d=t
    · subst h
      simp [Act.put,hn,b]
    · rw [qi (by simpa using h)]
      simp only [Act.put];rw [qa7,Array.getElem?_setIfInBounds_ne h,<- qa7]
abbrev w64 (n:Int):Int:=IntKind.i64.wrap n
abbrev wu64 (n:Int):Int:=IntKind.u64.wrap n
abbrev wu8 (n:Int):Int:=IntKind.u8.wrap n
def eB (b:Bool):FV := .atom (.bool b)
def eS (s:BA):FV := .atom (.string s)
def eI (n:Int):FV := .atom (.int .i64 n)
def eU8 (n:Int):FV := .atom (.int .u8 n)
def eU64 (n:Int):FV := .atom (.int .u64 n)
def eL {α:Type} (size:Nat) (e:α->FV) (xs:List α):FV := .lst size xs.length (xs.map e)
def idx {α:Type} (xs:List α) (i:Int):Option α:=if 0<=i then xs[i.toNat]? else none
def byt (s:BA) (i:Int):Option Int:=if 0<=i then (s[i.toNat]?).map fun c=>(c.toNat:Int) else none
def app {α:Type} (bytes:Nat) (xs ys:List α):Option (List α):=if (xs.length+ys.length)*(bytes+1)<=140737488355328 then some (xs++ys) else none
theorem kvy {α:Type} {xs:List α} {i:Int} {x:α} (h:idx xs i=some x):0<=i/\xs[i.toNat]?=some x:=by
  unfold idx at h;split at h
  · exact ⟨by assumption,h⟩
  · cases h
theorem kahx {α:Type} (enc:α->FV) {xs:List α} {i:Int} {x:α} {X Y:Operand} {e:TypeId} {de:TD} {k:IntKind} {cs:List FV} (h:idx xs i=some x) (c:TOk P T) (ho:o.op = .indexAddr t X Y) (f:kag T t=some d) (hk:d.kind = .slice e) (b:kag T e=some de) (g:kpz (st.eval X)=some (xs.map enc)) (a:∀ x,(enc x).cells.length=de.size) (hy:st.eval Y = .fz (.atom (.int k i))) (hc:(enc x).cells=cs):NStep P o st (.fz (.fp cs)):=by
  obtain ⟨h0,h1⟩:=kvy h;refine k87 ho (c.get f) hk (c.get b) g (fun z j=>?_) hy h0 (z:=enc x) (by rw [qq,h1];rfl) hc;obtain ⟨y,_,rfl⟩:=qaa.1 j;exact a y
theorem kamk {s:BA} {i c:Int} {X Y:Operand} {k:IntKind} (h:byt s i=some c) (a:TOk P T) (ho:o.op = .index t X Y) (e:kag T t=some d) (hk:d.kind = .str) (f:st.eval X = .fz (.atom (.string s))) (hy:st.eval Y = .fz (.atom (.int k i))):
    NStep P o st (.fz (.atom (.int .u8 c))):=by
  unfold byt at h;split at h
  · rename_i h0
    simp only [qw] at h;obtain ⟨b,g,rfl⟩:=h;exact kadc ho (a.get e) hk f hy h0 g
  · cases h
theorem k7h {α:Type} {bytes:Nat} {xs ys r:List α} (h:app bytes xs ys=some r):r=xs++ys/\(xs.length+ys.length)*(bytes+1)<=140737488355328:=by
  unfold app at h;split at h
  · injection h with h;exact ⟨h.symm,by assumption⟩
  · cases h
theorem kze {α:Type} (enc:α->FV) {bytes:Nat} {xs ys r:List α} {X Y:Operand} {e:TypeId} {de:TD} {n m id:Nat} (h:app bytes xs ys=some r) (i:TOk P T) (ho:o.op = .call { callee := .builtin .append,args:=#[X,Y],argTypes:=#[t,t] }) (j:kag T t=some d) (hk:d.kind = .slice e) (b:kag T e=some de) (k:Nat.ble 1 de.size=true) (c:de.zero.length=de.size) (f:de.bytes=bytes) (l:st.eval X = .row id n) (g:kad st.heap id=some (.frow e de.size (xs.map enc))) (hn:n=xs.length) (hy:st.eval Y = .fz (.lst de.size m (ys.map enc))\/st.eval Y = .lim de.size m (ys.map enc)):
    StepA P o st (.row id r.length) ((id, .frow e de.size (r.map enc))::st.heap) st.ids:=by
  obtain ⟨rfl,a⟩:=k7h h;subst f;have:=kae2 (id:=id) (d:=d) (t:=t) (st:=st) (o:=o) (P:=P) (xs.map enc) (ys.map enc) ho (i.get j) hk (i.get b) (qu k) c l g (by rw [hn];simp) hy (by simpa using a);rw [<- qax,qs] at this;exact this
theorem kjg (t id n:Nat) (e:TypeId) (size:Nat) (xs:List FV) (f:st.get t = .row id n:=by kernel_rfl) (d:kad st.heap id=some (.frow e size xs):=by kernel_rfl) (hn:n=xs.length:=by simp):
    LeSt st { st with tmps:=(t, .fz (.lst size n xs))::st.tmps,heap:=kdb id st.heap }:=by
  subst hn;intro F S0 N0 ψ S a w hs;obtain ⟨c1,c2⟩:=kq1 hs.core d;have c:∀ k,RV ψ (·∈st.ids) (fun b=>S b\/kau (ψ.val id)=some b) w (a.tmps.getD k undef) (st.get k):=fun k=>(hs.tmps k).mono (fun _ h=>h) fun _ h => .inl h;refine ⟨ψ,_,hs.defers,hs.size,fun k=>?_,c1⟩;simp only [St.get,kbf];split
  · rename_i hk
    subst hk;have hv:=c t;rw [f] at hv;have h0:=(hs.core.obj id _ d).2.1.1;refine .fz ?_;generalize a.tmps.getD t undef=u at hv;cases hv with
    | row hK g h1 hv=>rw [hv (by rw [h0])];exact c2
  · exact c k
theorem kmr (id2 id n j:Nat) (e:TypeId) (size:Nat) (xs:List FV) (e2:TypeId) (cells:List AV) (d:kad st.heap id2=some (.box e2 cells):=by kernel_rfl) (l:cells[j]?=some (.row id n):=by kernel_rfl) (g:kad st.heap id=some (.frow e size xs):=by kernel_rfl) (hn:n=xs.length:=by simp):
    LeSt st { st with heap:=(id2, .box e2 (cells.set j (.fz (.lst size n xs))))::kdb id st.heap }:=by
  subst hn;intro F S0 N0 ψ S a w hs;obtain ⟨c1,c2⟩:=kq1 hs.core g;have q:id2≠id:=fun h=>by rw [h,g] at d;cases d
  have p:kad (kdb id st.heap) id2=some (.box e2 cells):=k1o q d;obtain ⟨k1,⟨k0,b,cs,k2,k3,k4,k5,k6⟩,k7⟩:=c1.obj id2 _ p;refine ⟨ψ,_,hs.defers,hs.size,fun k=>(hs.tmps k).mono (fun _ h=>h) fun _ h => .inl h,⟨fun i o ho=>?_,fun i i' o o' b ho r m u=>?_,c1.lt,c1.s0,c1.n0,c1.fr⟩⟩
  · rw [kai] at ho
    by_cases hi:id2=i
    · subst hi
      rw [ql rfl] at ho;injection ho with ho;subst ho;refine ⟨k1,⟨k0,b,cs,k2,k3,by simpa using k4,fun x l=>?_,fun i v x hv c=>?_⟩,k7⟩
      · rcases List.mem_or_eq_of_mem_set l with l | rfl
        · exact k5 x l
        · rfl
      · rw [List.getElem?_set] at c
        split at c
        · rename_i s
          subst s;split at c
          · injection c with c
            subst c;have t:=k6 j v _ hv l;have h0:=(hs.core.obj id _ g).2.1.1;refine .fz ?_;cases t with
            | row hK y h1 hv=>rw [hv (by rw [h0])];exact c2
          · cases c
        · exact k6 i v x hv c
    · rw [qi hi] at ho
      exact c1.obj i o ho
  · have f:∀ {i:Nat} {o:AObj},kad ((id2,AObj.box e2 (cells.set j (.fz (.lst size xs.length xs))))::kdb id st.heap) i=some o->∃ o',kad (kdb id st.heap) i=some o':=fun {i o} h=>by
      rw [kai] at h;by_cases hi:id2=i
      · subst hi;exact ⟨_,p⟩
      · rw [qi hi] at h;exact ⟨_,h⟩
    obtain ⟨o1,h1⟩:=f ho;obtain ⟨o2,p⟩:=f r;exact c1.inj i i' o1 o2 b h1 p m u
theorem kek (e e2:TypeId) (size id2 j id:Nat) (cells:List AV) (u:Nat.ble 1 size=true:=by kernel_rfl) (g:kad st.heap id2=some (.box e2 cells):=by kernel_rfl) (l:cells[j]?=some (.fz (.atom (.slice none 0 0))):=by kernel_rfl) (d:st.ids.contains id=false:=by kernel_rfl):
    LeSt st { st with heap:=(id2, .box e2 (cells.set j (.row id 0)))::(id, .frow e size [])::st.heap,ids:=id::st.ids }:=by
  have d:id∉st.ids:=by simpa using d
  intro F S0 N0 ψ S a w hs;have hadd:=hs.core.add (n:=0) (v := .slice none 0 0) (w':=w) (ob := .frow e size []) (kaj _) d (fun b q=>by cases q) ⟨kcl _ _,qu u,[],by rw [kap];exact ⟨by simp, .inl ⟨rfl,rfl⟩⟩,(fun x l=>by cases l),fun i x j v y h=>by simp at h⟩;have r:id≠id2:=fun h=>d (by rw [h];exact (hs.core.obj id2 _ g).1);have p:kad ((id, .frow e size [])::st.heap) id2=some (.box e2 cells):=by rw [kai,qi r];exact g
  obtain ⟨k1,⟨k0,b,cs,k2,k3,k4,k5,k6⟩,k7⟩:=hadd.obj id2 _ p;refine ⟨ψ.set id 0 (.slice none 0 0),S,hs.defers,hs.size,fun k=>(hs.tmps k).keep (kb5 d _ _) (fun _ h=>qk _ h) (fun _ h=>h) (fun _ _ _=>rfl),⟨fun i o ho=>?_,fun i i' o o' b ho s m q=>?_,hadd.lt,hadd.s0,hadd.n0,hadd.fr⟩⟩
  · rw [kai] at ho
    by_cases hi:id2=i
    · subst hi
      rw [ql rfl] at ho;injection ho with ho;subst ho;refine ⟨k1,⟨k0,b,cs,k2,k3,by simpa using k4,fun x l=>?_,fun i v x hv c=>?_⟩,k7⟩
      · rcases List.mem_or_eq_of_mem_set l with l | rfl
        · exact k5 x l
        · rfl
      · rw [List.getElem?_set] at c
        split at c
        · rename_i t
          subst t;split at c
          · injection c with c
            subst c;rw [(k6 j v _ hv l).atom];exact .row (qo ..) (qao _) rfl fun _=>(kap _ _).symm
          · cases c
        · exact k6 i v x hv c
    · rw [qi hi] at ho
      exact hadd.obj i o ho
  · have f:∀ {i:Nat} {o:AObj},kad ((id2,AObj.box e2 (cells.set j (.row id 0)))::(id, .frow e size [])::st.heap) i=some o->∃ o',kad ((id, .frow e size [])::st.heap) i=some o':=fun {i o} h=>by
      rw [kai] at h;by_cases hi:id2=i
      · subst hi;exact ⟨_,p⟩
      · rw [qi hi] at h;exact ⟨_,h⟩
    obtain ⟨o1,h1⟩:=f ho;obtain ⟨o2,p⟩:=f s;exact hadd.inj i i' o1 o2 b h1 p m q
theorem LeSt.refl:LeSt st st:=fun F S0 N0 ψ S a w h=>⟨ψ,S,h⟩
theorem LeSt.trans {st' st'':St} (h:LeSt st st') (k:LeSt st' st''):LeSt st st'':=fun F S0 N0 ψ S a w hs=>by obtain ⟨ψ',S',b⟩:=h F S0 N0 ψ S a w hs;exact k F S0 N0 ψ' S' a w b
theorem NStep.eqv {c c':AV} (h:NStep P o st c) (e:c=c'):NStep P o st c':=e ▸ h
theorem kv3 {c:Code} {Q:Exit->St->Prop} (h:awp P c st fun e st'=>∃ st2,LeSt st' st2/\Q e st2):awp P c st Q:=fun F S0 N0 ψ S a w hs=>
  wp_mono (h F S0 N0 ψ S a w hs) fun e a' w' ⟨st',ψ',S',⟨st2,h0,h1⟩,b,d⟩=>by obtain ⟨ψ2,S2,f⟩:=h0 F S0 N0 ψ' S' a' w' b;exact ⟨st2,ψ2,S2,h1,f,d⟩
theorem kaeh {c:Code} {Qa Q:Exit->St->Prop} (ha:awp P c st Qa) (a:∀ e st',Qa e st'->∃ st2,LeSt st' st2/\Q e st2):awp P c st Q:=kv3 (kz5 ha a)
theorem le_eq (t:Nat) (x y:AV) (b:st.get t=x) (h:x=y):LeSt st (st.put (some t) y):=by
  subst h;intro F S0 N0 ψ S a w hs;refine ⟨ψ,S,hs.defers,hs.size,fun k=>?_,hs.core⟩;simp only [St.put,St.get,kbf];split
  · rename_i hk;subst hk;rw [<- b];exact hs.tmps t
  · exact hs.tmps k
theorem kabk {σ β:Type} {step:σ->Option (σ ⊕ β)} (body:Code) (stOf:σ->St) {s0:σ} {b:β} {n:Nat} (Qb:β->Exit->St->Prop) (hl:kac step n s0=some b) (h0:LeSt st (stOf s0)) (hr:∀ s r,step s=some r->awp P body (stOf s) fun e st=>match r with | .inl s'=>e = .normal/\LeSt st (stOf s') | .inr b'=>(e ≠ .normal/\e ≠ .outgrown)/\Qb b' e st):awp P (.loop body) st (Qb b):=by
  exact kaft stOf hl h0 (fun s s' hs=>hr s _ hs) fun s hs=>kz5 (hr s _ hs) fun e st h=>⟨h.1.1,h.1.2,h.2⟩
end Go.Proofs.YtjbonbdomgoklaaGreatDoor
