import Derived.Test.YtaimpcnpifoidaaGreatDoorSim
import Derived.Laws.CopyRow
import Derived.Laws.Rows
import Derived.Great.FillDense
set_option linter.all false
namespace Go.Proofs.YtaimpcnpifoidaaGreatDoor
open Go Go.RowKit
inductive TK where
  | bool
  | int (k:IntKind)
  | str
  | ptr (e:TypeId)
  | slice (e:TypeId)
  | map (k e:TypeId)
  | fn
  | ifc
  | arr (n:Nat) (e:TypeId)
  | st (fs:List (TypeId×Nat))
structure TD where
  size:Nat
  bytes:Nat
  kind:TK
  zero:List Value
def TK.agg:TK->Bool
  | .arr _ _=>true
  | .st _=>true
  | _=>false
def kan:TypeDesc->TK->Prop
  | .bool, .bool=>True
  | .int k, .int k'=>k=k'
  | .string, .str=>True
  | .pointer e, .ptr e'=>e=e'
  | .slice e, .slice e'=>e=e'
  | .map k e, .map k' e'=>k=k'/\e=e'
  | .func _ _ _, .fn=>True
  | .interface _, .ifc=>True
  | .array n e, .arr n' e'=>n=n'/\e=e'
  | .struct fs, .st gs=>fs.toList.map (fun f=>(f.type,f.offset))=gs
  | _,_=>False
def TdOk (P:Program) (t:TypeId) (d:TD):Prop:=
  (∃ i z,P.info? t=some i/\i.size=d.size/\i.bytes=d.bytes/\i.zero=some z/\z.cells.toList=d.zero)/\∃ e,P.underlying t=some e/\kan e d.kind
def kat:List (TypeId×TD)->TypeId->Option TD
  | [],_=>none
  | (k,v)::l,t=>bif Nat.beq k t then some v else kat l t
def TOk (P:Program) (T:List (TypeId×TD)):Prop:=∀ p∈T,TdOk P p.1 p.2
theorem TOk.get {P:Program} {T:List (TypeId×TD)} (h:TOk P T) {t:TypeId} {d:TD} (ht:kat T t=some d):TdOk P t d:=by
  induction T with
  | nil=>cases ht
  | cons p l ih=>
    obtain ⟨k,v⟩:=p;simp only [kat] at ht;by_cases hk:k=t
    · subst hk
      simp only [Nat.beq_refl,qf,ql] at ht;subst ht;exact h _ (qt ..)
    · rw [Nat.beq_eq_false hk] at ht
      exact ih (fun p hp=>h p (qn _ hp)) ht
def intV (k:IntKind) (op:BinOp) (a b:Int):Option Value:=match op with
  | .add=>some (.int k (k.wrap (a+b)))
  | .sub=>some (.int k (k.wrap (a - b)))
  | .mul=>some (.int k (k.wrap (a*b)))
  | .quo=>if b=0 then none else some (.int k (k.wrap (a.tdiv b)))
  | .rem=>if b=0 then none else some (.int k (a.tmod b))
  | .and=>some (.int k (k.wrap (BitVec.ofInt k.bits a &&& BitVec.ofInt k.bits b).toNat))
  | .or=>some (.int k (k.wrap (BitVec.ofInt k.bits a ||| BitVec.ofInt k.bits b).toNat))
  | .xor=>some (.int k (k.wrap (BitVec.ofInt k.bits a ^^^ BitVec.ofInt k.bits b).toNat))
  | .andNot=>some (.int k (k.wrap (BitVec.ofInt k.bits a &&& ~~~BitVec.ofInt k.bits b).toNat))
  | .eql=>some (.bool (a == b))
  | .neq=>some (.bool (a != b))
  | .lss=>some (.bool (decide (a<b)))
  | .leq=>some (.bool (decide (a<=b)))
  | .gtr=>some (.bool (decide (b<a)))
  | .geq=>some (.bool (decide (b<=a)))
  | _=>none
def shV (k:IntKind) (op:BinOp) (a b:Int):Option Value:=match op with
  | .shl=>if b<0 then none else some (.int k (k.wrap (a*2 ^ (min b.toNat k.bits))))
  | .shr=>if b<0 then none else some (.int k (a.fdiv (2 ^ (min b.toNat k.bits))))
  | _=>none
def strV (op:BinOp) (x y:BA):Option Value:=match op with
  | .eql=>some (.bool (x.toList == y.toList))
  | .neq=>some (.bool !(x.toList == y.toList))
  | .lss=>some (.bool (Op.bytesLess x.toList y.toList))
  | .leq=>some (.bool (Op.bytesLess x.toList y.toList || x.toList == y.toList))
  | .gtr=>some (.bool !(Op.bytesLess x.toList y.toList || x.toList == y.toList))
  | .geq=>some (.bool !(Op.bytesLess x.toList y.toList))
  | _=>none
def binV (bt:Bool) (op:BinOp):Value->Value->Option Value
  | .int k a, .int k' b=>match op with
    | .shl=>shV k .shl a b
    | .shr=>shV k .shr a b
    | op=>if k=k' then intV k op a b else none
  | .string x, .string y=>strV op x y
  | .bool x, .bool y=>match bt,op with
    | true, .eql=>some (.bool (x == y))
    | true, .neq=>some (.bool (!(x == y)))
    | _,_=>none
  | _,_=>none
def unV (op:UnOp):Value->Option Value
  | .int k n=>match op with
    | .neg=>some (.int k (k.wrap (0 - n)))
    | .xor=>some (.int k (k.wrap (BitVec.ofInt k.bits (if k.signed then -1 else k.max) ^^^ BitVec.ofInt k.bits n).toNat))
    | _=>none
  | .bool b=>match op with
    | .not=>some (.bool !b)
    | _=>none
  | _=>none
section
variable {P:Program} {w w':World} {S S':Nat->Prop} {ψ:Env} {K:Nat->Prop} {T:List (TypeId×TD)} {o:Oper} {a:Act} {st:St}
theorem kae9 {op:BinOp} {t:TypeId} {k:IntKind} {a b:Int} {v:Value} (hs:op ≠ .shl/\op ≠ .shr) (h:intV k op a b=some v):(binOp op t (.int k a) (.int k b)).run P w = .ok v w:=by
  cases op <;> simp only [intV] at h <;> first
    | exact absurd rfl hs.1
    | exact absurd rfl hs.2
    | (injection h with h;subst h;simp only [binOp,ne_eq,not_true_eq_false,qa4];rfl)
    | (split at h
       · cases h
       · rename_i c
         injection h with h;subst h;simp only [binOp,ne_eq,not_true_eq_false,qa4,Op.intDiv,qg c];rfl)
theorem k6x {op:BinOp} {t:TypeId} {k k':IntKind} {a b:Int} {v:Value} (hs:op = .shl\/op = .shr) (h:shV k op a b=some v):(binOp op t (.int k a) (.int k' b)).run P w = .ok v w:=by
  rcases hs with rfl | rfl <;> simp only [shV] at h <;>
    (split at h
     · cases h
     · rename_i c
       injection h with h;subst h;simp only [binOp,Op.shift,qg c];rfl)
theorem kaeq {op:BinOp} {t:TypeId} {x y:BA} {v:Value} (h:strV op x y=some v):(binOp op t (.string x) (.string y)).run P w = .ok v w:=by
  cases op <;> simp only [strV] at h <;> first
    | (injection h with h;subst h;rfl)
    | cases h
theorem kagj {bt:Bool} {op:BinOp} {t:TypeId} {x y v:Value} (d:bt=true->P.underlying t=some .bool) (h:binV bt op x y=some v):(binOp op t x y).run P w = .ok v w:=by
  cases x <;> cases y <;> simp only [binV] at h <;> try cases h
  case int.int k a k' b=>
    by_cases h1:op = .shl
    · subst h1;exact k6x (.inl rfl) h
    by_cases h2:op = .shr
    · subst h2;exact k6x (.inr rfl) h
    have c:(if k=k' then intV k op a b else none)=some v:=(by cases op <;> first | exact h | exact absurd rfl h1 | exact absurd rfl h2);split at c
    · rename_i hk
      subst hk;exact kae9 ⟨h1,h2⟩ c
    · cases c
  case string.string x y=>exact kaeq h
  case bool.bool x y=>
    cases bt with
    | false=>cases h
    | true=>
      have e:=d rfl;have f:(Op.equal t (.bool x) (.bool y)).run P w = .ok (x == y) w:=(by unfold Op.equal;rw [show Op.maxDepth=9999+1 from rfl,Op.equalIn,Sem.run_bind,run_underlying e,Result.andThen_ok];rfl);cases op <;> simp only at h <;> first
        | (injection h with h;subst h;simp only [binOp,Sem.run_bind,f,Result.andThen_ok];rfl)
        | cases h
theorem kaju {op:UnOp} {x v:Value} (h:unV op x=some v):(Op.unary op x).run P w = .ok v w:=by
  cases x <;> simp only [unV] at h <;> try cases h
  case int k n=>cases op <;> simp at h <;> (subst h;simp [Op.unary,Op.intArith,Op.intBits])
  case bool b=>cases op <;> simp at h <;> (subst h;simp [Op.unary])
theorem kahc {bt:Bool} {op:BinOp} {x y v:Value} (h:binV bt op x y=some v):v.oneCell'=true:=by
  cases x <;> cases y <;> simp only [binV] at h <;> try cases h
  case int.int k a k' b=>
    cases op <;> simp only [shV,intV] at h <;> (repeat' split at h) <;> first
      | (injection h with h;subst h;rfl)
      | cases h
  case string.string x y=>cases op <;> simp only [strV] at h <;> first | (injection h with h;subst h;rfl) | cases h
  case bool.bool x y=>cases bt <;> cases op <;> first | (injection h with h;subst h;rfl) | cases h
theorem kakp {op:UnOp} {x v:Value} (h:unV op x=some v):v.oneCell'=true:=by cases x <;> cases op <;> simp [unV] at h <;> (subst h;rfl)
theorem kaj {R:Value->World->Prop} {v:Value} (h:(execOp a.eval o).run P w = .ok (.value v) w') (hr:R v w'):kis P o a w R:=by unfold kis;rw [h];exact hr
theorem kps {R:Value->World->Prop} (h:(execOp a.eval o).run P w = .ok .skip w') (hr:R undef w'):kis P o a w R:=by unfold kis;rw [h];exact hr
theorem RV.here {v:Value} {x:AV} (h:RV ψ K S w v x):RV ψ K (fun b=>S b\/w.heap.size<=b) w v x:=h.mono (fun _ h=>h) fun _ h => .inl h
def kajj:Value->Bool
  | .int ..=>true
  | .string _=>true
  | .bool _=>true
  | _=>false
theorem kxa {op:BinOp} {t:TypeId} {x y:Operand} {u v:Value} (a:kajj u=true):(eqGuard op t x y u v).run P w = .ok () w:=by unfold eqGuard;cases u <;> cases a <;> cases op <;> simp
theorem kacl {bt:Bool} {op:BinOp} {u v r:Value} (h:binV bt op u v=some r):kajj u=true:=by cases u <;> cases v <;> first | rfl | cases h
theorem n_bin {op:BinOp} {t yt:TypeId} {x y:Operand} {u v r:Value} (bt:Bool) (b:bt=true->P.underlying t=some .bool) (ho:o.op = .binOp op t x y yt) (c:st.eval x = .fz (.atom u)) (d:st.eval y = .fz (.atom v)) (h:binV bt op u v=some r):NStep P o st (.fz (.atom r)):=by intro ψ S a w ht _;have h1:=Sim.eval_tmps ht x;have h2:=Sim.eval_tmps ht y;rw [c] at h1;rw [d] at h2;refine kaj (w':=w) (v:=r) ?_ ⟨kai _, .fz (.atom (kahc h))⟩;simp [execOp,ho,h1.atom,h2.atom,kagj b h,kxa (kacl h)]
theorem n_un {op:UnOp} {t:TypeId} {x:Operand} {u r:Value} (ho:o.op = .unOp op t x) (b:st.eval x = .fz (.atom u)) (h:unV op u=some r):NStep P o st (.fz (.atom r)):=by intro ψ S a w ht _;have h1:=Sim.eval_tmps ht x;rw [b] at h1;refine kaj (w':=w) (v:=r) ?_ ⟨kai _, .fz (.atom (kakp h))⟩;simp [execOp,ho,h1.atom,kaju h]
theorem kae3 {x:Operand} (ho:o.op = .move x\/o.op = .assign x):NStep P o st (st.eval x):=by intro ψ S a w ht _;refine kaj (w':=w) (v:=a.eval x) ?_ ⟨kai _,(Sim.eval_tmps ht x).here⟩;rcases ho with ho | ho <;> simp [execOp,ho]
theorem kam2 {c x y:Operand} {b:Bool} (ho:o.op = .pick c x y) (hc:st.eval c = .fz (.atom (.bool b))):NStep P o st (bif b then st.eval x else st.eval y):=by
  intro ψ S a w ht _;have h1:=Sim.eval_tmps ht c;rw [hc] at h1;refine kaj (w':=w) (v:=bif b then a.eval x else a.eval y) ?_ ⟨kai _,?_⟩
  · cases b <;> simp [execOp,ho,h1.atom,asBool]
  · cases b
    · exact (Sim.eval_tmps ht y).here
    · exact (Sim.eval_tmps ht x).here
end
def kuk:List AV->Option (List FV)
  | []=>some []
  | .fz x::l=>(kuk l).map (x::·)
  | _::_=>none
def aggA (xs:List AV):AV:=match kuk xs with
  | some ys => .fz (.agg ys)
  | none => .agg xs
def tupA (xs:List AV):AV:=match kuk xs with
  | some ys => .fz (.tup ys)
  | none => .tup xs
def kt7 (d:TD) (xs:List AV):Option AV:=bif d.kind.agg then (bif Nat.ble d.size xs.length then some (aggA (xs.take d.size)) else none) else xs.head?
def knu (st:St):AV->Option (List AV)
  | .fz (.fp cs)=>some (cs.map .fz)
  | .ref id n off=>match kab st.heap id with
    | some (.box _ cells)=>bif Nat.beq n 0 then some (cells.drop off) else none
    | _=>none
  | _=>none
section
variable {P:Program} {w w':World} {S S':Nat->Prop} {ψ:Env} {K:Nat->Prop} {T:List (TypeId×TD)} {o:Oper} {a:Act} {st:St} {t:TypeId} {d:TD}
theorem TdOk.size (h:TdOk P t d):(sizeOf t).run P w = .ok d.size w:=by obtain ⟨⟨i,z,h1,h2,_⟩,_⟩:=h;simp [sizeOf,typeInfo,h1,h2]
theorem TdOk.info (h:TdOk P t d):(P.info? t).map (·.size)=some d.size:=by obtain ⟨⟨i,z,h1,h2,_⟩,_⟩:=h;simp [h1,h2]
theorem TdOk.isAgg (h:TdOk P t d):(isAgg t).run P w = .ok d.kind.agg w:=by obtain ⟨_,e,h1,h2⟩:=h;unfold Go.isAgg;rw [Sem.run_bind,run_underlying h1];cases e <;> cases hk:d.kind <;> simp [kan,hk,TK.agg] at h2 ⊢
theorem TdOk.zero (h:TdOk P t d):∃ z,(zeroValue t).run P w = .ok z w/\z.cells.toList=d.zero:=by obtain ⟨⟨i,z,h1,h2,h3,a,b⟩,_⟩:=h;exact ⟨z,by simp [zeroValue,typeInfo,h1,a],b⟩
theorem TdOk.strct {fs:List (TypeId×Nat)} (h:TdOk P t d) (hk:d.kind = .st fs):∃ gs:Array Field,(∀ w,(underlying t).run P w = .ok (.struct gs) w)/\gs.toList.map (fun f=>(f.type,f.offset))=fs:=by obtain ⟨_,e,h1,h2⟩:=h;rw [hk] at h2;cases e <;> simp [kan] at h2;exact ⟨_,fun w=>run_underlying h1 w,h2⟩
theorem TdOk.arr {n e:Nat} (h:TdOk P t d) (hk:d.kind = .arr n e):P.underlying t=some (.array n e):=by obtain ⟨_,e',h1,h2⟩:=h;rw [hk] at h2;cases e' <;> simp [kan] at h2;rw [h1,h2.1,h2.2]
theorem TdOk.slice {e:Nat} (h:TdOk P t d) (hk:d.kind = .slice e):P.underlying t=some (.slice e):=by obtain ⟨_,e',h1,h2⟩:=h;rw [hk] at h2;cases e' <;> simp [kan] at h2;rw [h1,h2]
theorem TdOk.str (h:TdOk P t d) (hk:d.kind = .str):P.underlying t=some .string:=by obtain ⟨_,e',h1,h2⟩:=h;rw [hk] at h2;cases e' <;> simp [kan] at h2;rw [h1]
theorem kwg:∀ {xs:List AV} {ys:List FV},kuk xs=some ys->xs=ys.map .fz
  | [],ys,h=>by simp [kuk] at h;subst h;rfl
  | .fz x::l,ys,h=>by simp only [kuk,qm] at h;obtain ⟨zs,a,rfl⟩:=h;rw [kwg a];rfl
theorem RV.aggA {cs:Array Value} {xs:List AV} (h:cs.size=xs.length) (h1:∀ x∈xs,x.single=true) (hr:∀ (i:Nat) (v:Value) (x:AV),cs[i]?=some v->xs[i]?=some x->RV ψ K S w v x):RV ψ K S w (.agg cs) (aggA xs):=by
  unfold Go.Proofs.YtaimpcnpifoidaaGreatDoor.aggA;cases b:kuk xs with
  | none=>exact .agg h h1 hr
  | some ys=>
    have:=kwg b;subst this;exact .fz (.agg (by simpa using h) (fun x a=>h1 (.fz x) (by simp [a])) fun i v x hv a=>(hr i v (.fz x) hv (by simp [a])).inv)
theorem RV.tupA {cs:Array Value} {xs:List AV} (h:cs.size=xs.length) (hr:∀ (i:Nat) (v:Value) (x:AV),cs[i]?=some v->xs[i]?=some x->RV ψ K S w v x):RV ψ K S w (.tuple cs) (tupA xs):=by
  unfold Go.Proofs.YtaimpcnpifoidaaGreatDoor.tupA;cases a:kuk xs with
  | none=>exact .tup h hr
  | some ys=>
    have:=kwg a;subst this;exact .fz (.tup (by simpa using h) fun i v x hv b=>(hr i v (.fz x) hv (by simp [b])).inv)
def Cells (ψ:Env) (K S:Nat->Prop) (w:World) (b o:Nat) (xs:List AV):Prop:=
  ∃ cs:List Value,At w b o cs/\cs.length=xs.length/\(∀ x∈xs,x.single=true)/\∀ (i:Nat) (v:Value) (x:AV),cs[i]?=some v->xs[i]?=some x->RV ψ K S w v x
theorem k1n {v:Value} {x:AV} {xs:List AV} (hv:RV ψ (·∈st.ids) S w v x) (k:∀ id o,kab st.heap id=some o->ObR ψ (·∈st.ids) S w id o) (h:knu st x=some xs):
    ∃ b o,v = .pointer (some ⟨b,o,none⟩)/\Cells ψ (·∈st.ids) S w b o xs:=by
  cases x with
  | fz x=>
    cases x with
    | fp cs=>
      simp only [knu,ql] at h;subst h;cases hv with
      | fz hv=>
        cases hv with
        | @fp b o _ vs hS ha hl h0 h1 hr=>
          refine ⟨b,o,rfl,vs,ha,by simpa using hl,fun x a=>?_,fun i v x hv a=>?_⟩
          · simp only [qa3] at a
            obtain ⟨y,d,rfl⟩:=a;exact h1 y d
          · simp only [qp,qm] at a
            obtain ⟨y,d,rfl⟩:=a;exact .fz (hr i v y hv d)
    | _=>cases h
  | ref id n off=>
    simp only [knu] at h;split at h
    · rename_i e cells ho
      cases hn:Nat.beq n 0 with
      | false=>rw [hn] at h;cases h
      | true=>
        rw [hn] at h;simp only [qf,ql] at h;subst h;obtain rfl:=qx hn;obtain ⟨h0,b,cs,h1,h2,h3,l,m⟩:=k id _ ho;cases hv with
        | ref hK p q f=>
          obtain ⟨b',c,rfl⟩:=f h0.symm;rw [h1] at c;simp only [kby,ql] at c;subst c;refine ⟨b,off,rfl,cs.toList.drop off,fun j u g=>?_,by simp [h3],fun x a=>l x (List.mem_of_mem_drop a),fun i v x hv a=>?_⟩
          · rw [qat] at g
            simp only [World.cell?,h2];simpa using g
          · rw [qat] at hv a
            exact m _ v x (by simpa using hv) a
    · cases h
  | _=>cases h
theorem kafb {x:Operand} {xs:List AV} {c:AV} (ho:o.op = .load t x) (hd:TdOk P t d) (f:knu st (st.eval x)=some xs) (hc:kt7 d xs=some c):NStep P o st c:=by
  intro ψ S a w ht q;obtain ⟨b,off,hv,cs,k,hl,h1,hr⟩:=k1n (Sim.eval_tmps ht x) q f;unfold kt7 at hc;cases hk:d.kind.agg with
  | false=>
    rw [hk] at hc;simp only [qd] at hc;cases xs with
    | nil=>cases hc
    | cons y ys=>
      simp only [List.head?_cons,ql] at hc;subst hc;have l:cs[0]?=some (cs[0]'(by simp at hl;omega)):=qc _;have g:w.cell? ⟨b,off,none⟩=some (cs[0]'(by simp at hl;omega)):=(by simpa using k 0 _ l);refine kaj (w':=w) (v:=cs[0]'(by simp at hl;omega)) ?_ ⟨kai _,(hr 0 _ y l rfl).here⟩;simp [execOp,ho,hv,Instr.loadAt,Instr.sureAddr,loadVar,hd.isAgg,hk,g]
  | true=>
    rw [hk] at hc;simp only [qf] at hc;cases h:Nat.ble d.size xs.length with
    | false=>rw [h] at hc;cases hc
    | true=>
      rw [h] at hc;simp only [qf,ql] at hc;subst hc;have p:=qai h;have m:(cs.take d.size).length=d.size:=(by rw [qah];omega);have e:=run_loadCells_list (P:=P) w ⟨b,off,none⟩ (cs.take d.size) fun j v n=>by
        rw [qaj] at n;split at n
        · have:=k j v n
          simp only [Addr.add];split
          · rename_i h0;subst h0;simpa using this
          · exact this
        · cases n
      rw [m] at e;refine kaj (w':=w) (v := .agg (cs.take d.size).toArray) ?_ ⟨kai _,(RV.aggA (by simp [hl]) (fun x f=>h1 x (List.mem_of_mem_take f)) fun i v x hv f=>?_).here⟩
      · simp [execOp,ho,hv,Instr.loadAt,Instr.sureAddr,loadVar,hd.isAgg,hk,hd.size,e]
      · simp only [List.getElem?_toArray] at hv
        rw [qaj] at hv f;split at hv
        · rename_i hi;rw [qj hi] at f;exact hr i v x hv f
        · cases hv
def kpn (st:St) (off:Nat) (x:AV):Option AV:=match x with
  | .fz (.fp cs)=>match cs.drop off with
    | []=>none
    | y::ys=>some (.fz (.fp (y::ys)))
  | .ref id n o=>match kab st.heap id with
    | some (.box _ cells)=>bif Nat.beq n 0 then some (.ref id n (o+off)) else none
    | _=>none
  | _=>none
theorem kjj (b o n:Nat):(⟨b,o,none⟩:Addr).add n=⟨b,o+n,none⟩:=by
  unfold Addr.add;split
  · rename_i h;subst h;rfl
  · rfl
theorem kym {off:Nat} {v:Value} {x c:AV} (hv:RV ψ (·∈st.ids) S w v x) (p:∀ id o,kab st.heap id=some o->ObR ψ (·∈st.ids) S w id o) (h:kpn st off x=some c):
    ∃ b o,v = .pointer (some ⟨b,o,none⟩)/\RV ψ (·∈st.ids) S w (.pointer (some ⟨b,o+off,none⟩)) c:=by
  cases x with
  | fz x=>
    cases x with
    | fp cs=>
      simp only [kpn] at h;cases hv with
      | fz hv=>
        cases hv with
        | @fp b o _ vs hS ha hl h0 h1 hr=>
          split at h
          · cases h
          · rename_i y ys hd
            injection h with h;subst h;refine ⟨b,o,rfl, .fz ?_⟩;rw [<- hd];have l:off<cs.length:=by
              rcases qbe off cs.length with d | d
              · exact d
              · rw [qaq d] at hd;cases hd
            refine .fp (vs.drop off) hS (fun j u m=>?_) (by simp [hl]) (by rw [qau];omega) (fun x a=>h1 x (List.mem_of_mem_drop a)) fun i v x hv a=>?_
            · rw [qat] at m
              have:=ha _ u m
              rwa [<- Nat.add_assoc] at this
            · rw [qat] at hv a
              exact hr _ v x hv a
    | _=>cases h
  | ref id n off'=>
    simp only [kpn] at h;split at h
    · rename_i e cells ho
      cases hn:Nat.beq n 0 with
      | false=>rw [hn] at h;cases h
      | true=>
        rw [hn] at h;simp only [qf,ql] at h;subst h;obtain rfl:=qx hn;obtain ⟨h0,b,cs,h1,h2,h3,r,s⟩:=p id _ ho;cases hv with
        | ref hK f q g=>
          obtain ⟨b',k,rfl⟩:=g h0.symm;exact ⟨b',off',rfl, .ref hK f rfl fun _=>⟨b',k,rfl⟩⟩
    · cases h
  | _=>cases h
theorem kal2 {s:TypeId} {x:Operand} {f:Nat} {fs:List (TypeId×Nat)} {ft:TypeId} {off:Nat} {df:TD} {c:AV} (ho:o.op = .fieldAddr s x f) (hd:TdOk P s d) (hk:d.kind = .st fs) (k:fs[f]?=some (ft,off)) (h:TdOk P ft df) (l:df.size≠0)
    (hc:kpn st off (st.eval x)=some c):NStep P o st c:=by
  intro ψ S a w ht m;obtain ⟨b,off',hv,hr⟩:=kym (Sim.eval_tmps ht x) m hc;obtain ⟨gs,n,i⟩:=hd.strct hk;have e:∃ g:Field,gs[f]?=some g/\g.type=ft/\g.offset=off:=by rw [<- i,qp,qm] at k;obtain ⟨g,e,j⟩:=k;simp only [qak] at j;exact ⟨g,by simpa using e,j.1,j.2⟩
  obtain ⟨g,e,rfl,rfl⟩:=e;refine kaj (w':=w) ?_ ⟨kai _,hr.here⟩;simp [execOp,ho,hv,Instr.fieldAt,n,e,Instr.sureAddr,fieldPlace,h.size,l,kjj]
theorem kafm {x:Operand} {i:Nat} {c:AV} (ho:o.op = .extract x i) (hc:(match st.eval x with | .fz (.tup xs)=>(xs[i]?).map .fz | .tup xs=>xs[i]? | _=>none)=some c):NStep P o st c:=by
  intro ψ S a w ht d;have hv:=Sim.eval_tmps ht x;have key:∃ (cs:Array Value) (v:Value),a.eval x = .tuple cs/\cs[i]?=some v/\RV ψ (·∈st.ids) S w v c:=by
    generalize st.eval x=y at hv hc;generalize a.eval x=u at hv;split at hc
    · rename_i xs
      have hv:=hv.inv;cases hv with
      | @tup cs _ hl hr=>
        simp only [qm] at hc;obtain ⟨z,b,rfl⟩:=hc;have hi:i<cs.size:=(by rw [hl];exact (qo.1 b).1);exact ⟨cs,cs[i],rfl,by simp [hi], .fz (hr i _ z (by simp [hi]) b)⟩
    · rename_i xs
      cases hv with
      | @tup cs _ hl hr=>
        have hi:i<cs.size:=(by rw [hl];exact (qo.1 hc).1);exact ⟨cs,cs[i],rfl,by simp [hi],hr i _ c (by simp [hi]) hc⟩
    · cases hc
  obtain ⟨cs,v,h1,h2,h3⟩:=key;refine kaj (w':=w) (v:=v) ?_ ⟨kai _,h3.here⟩;simp [execOp,ho,h1,Instr.extract,h2]
theorem kabk {x:Operand} {c:AV} (ho:o.op = .nilCheck x) (hc:kpn st 0 (st.eval x)=some c):NStep P o st c:=by intro ψ S a w ht d;obtain ⟨b,off',hv,hr⟩:=kym (Sim.eval_tmps ht x) d hc;refine kaj (w':=w) ?_ ⟨kai _,hr.here⟩;simp [execOp,ho,hv]
end
def kjf {α:Type} (cells:List α) (off:Nat) (xs:List α):List α:=cells.take off++(xs++cells.drop (off+xs.length))
def kyw (place:Nat->Option (Nat×Nat)) (cells:List AV):List (Nat×AV)->Option (List AV)
  | []=>some cells
  | (i,x)::rest=>match place i with
    | none=>none
    | some (off,size)=>bif Nat.beq x.cells.length size && (Nat.ble (off+size) cells.length && x.cells.all AV.single) then kyw place (kjf cells off x.cells) rest else none
def zeroA (d:TD):Option (List AV):=bif d.zero.all (·.oneCell') then some (d.zero.map fun v => .fz (.atom v)) else none
section
variable {P:Program} {w w':World} {S S':Nat->Prop} {ψ:Env} {K:Nat->Prop} {T:List (TypeId×TD)} {o:Oper} {a:Act} {st:St} {t:TypeId} {d:TD}
def PW (ψ:Env) (K S:Nat->Prop) (w:World) (cs:Array Value) (xs:List AV):Prop:=
  cs.size=xs.length/\∀ (i:Nat) (v:Value) (x:AV),cs[i]?=some v->xs[i]?=some x->RV ψ K S w v x
theorem kur {α:Type} (cells:List α) (off:Nat) (xs:List α) (h:off+xs.length<=cells.length) (k:Nat):(kjf cells off xs)[k]?=if off<=k/\k<off+xs.length then xs[k - off]? else cells[k]?:=by
  unfold kjf;by_cases h1:k<off
  · rw [qav (by rw [qah];omega),qaj,qj h1,qg (by omega)]
  · rw [qa5 (by rw [qah];omega),qah,Nat.min_eq_left (by omega)]
    by_cases h2:k<off+xs.length
    · rw [qav (by omega),qj (by omega)]
    · rw [qa5 (by omega),qat,qg (by omega)]
      congr 1;omega
theorem kqd {α:Type} (cells:List α) (off:Nat) (xs:List α) (h:off+xs.length<=cells.length):(kjf cells off xs).length=cells.length:=by unfold kjf;simp only [qr,qah,qau];omega
theorem k3u (place:Nat->Option (Nat×Nat)):∀ (parts:List (Nat×Value)) (as_:List (Nat×AV)) (cells:Array Value) (xs rs:List AV),PW ψ K S w cells xs->(∀ x∈xs,x.single=true)->parts.length=as_.length ->
    (∀ (i:Nat) (p:Nat×Value) (q:Nat×AV),parts[i]?=some p->as_[i]?=some q->p.1=q.1/\RV ψ K S w p.2 q.2)->kyw place xs as_=some rs ->
    ∃ r,Instr.fill place cells parts=some r/\PW ψ K S w r rs/\∀ x∈rs,x.single=true
  | [],[],cells,xs,rs,hp,h1,_,_,b=>by simp only [kyw,ql] at b;subst b;exact ⟨cells,rfl,hp,h1⟩
  | (i,v)::parts,(j,x)::as_,cells,xs,rs,hp,h1,hl,hr,b=>by
    obtain ⟨f,B⟩:=hr 0 _ _ rfl rfl;simp only at f;subst f;simp only [kyw] at b;cases c:place i with
    | none=>rw [c] at b;cases b
    | some os=>
      obtain ⟨off,size⟩:=os;rw [c] at b;simp only at b;cases hc:(Nat.beq x.cells.length size && (Nat.ble (off+size) xs.length && x.cells.all AV.single)) with
      | false=>rw [hc] at b;cases b
      | true=>
        rw [hc] at b;simp only [qf] at b;simp only [q8] at hc;obtain ⟨d,g,m⟩:=hc;have d:=qx d;have g:=qai g;have hs:∀ y∈x.cells,y.single=true:=qs.1 m;obtain ⟨e1,e2,e3⟩:=RV.cells B hs;simp only at e1 e2 e3;obtain ⟨g1,g2⟩:=Great.foldl_set off v.cells.toList 0 cells;have l:off+x.cells.length<=xs.length:=(by omega);have o:PW ψ K S w ((v.cells.toList.zipIdx 0).foldl (fun cs (x:Value×Nat)=>cs.setIfInBounds (off+x.2) x.1) cells) (kjf xs off x.cells):=by
          refine ⟨by rw [g1,kqd _ _ _ l];exact hp.1,fun k u y e a=>?_⟩;rw [g2 k] at e;rw [kur _ _ _ l] at a;simp only [Nat.add_zero,qas,e1] at e;by_cases hk:off<=k/\k<off+x.cells.length
          · rw [qj ⟨hk.1,hk.2,by rw [hp.1];omega⟩] at e
            rw [qj hk] at a;exact e2 _ u y (by simpa using e) a
          · rw [qg (fun h=>hk ⟨h.1,h.2.1⟩)] at e
            rw [qg hk] at a;exact hp.2 k u y e a
        have s:∀ y∈kjf xs off x.cells,y.single=true:=by
          intro y a;unfold kjf at a;simp only [qao] at a;rcases a with a | a | a
          · exact h1 y (List.mem_of_mem_take a)
          · exact hs y a
          · exact h1 y (List.mem_of_mem_drop a)
        obtain ⟨r,t,z,A⟩:=k3u place parts as_ _ _ rs o s (by simpa using hl) (fun n p q hp C=>hr (n+1) p q (by simpa using hp) (by simpa using C)) b;refine ⟨r,?_,z,A⟩;unfold Instr.fill;rw [c];simp only;rw [qg (by simp [e1,d,hp.1];omega)];rw [<- t];congr 1;rw [<- Array.foldl_toList,Array.toList_zipIdx]
theorem k8l {α β:Type} {f:α->Sem β} {g:α->β} (w:World):∀ (l:List α),(∀ x∈l,(f x).run P w = .ok (g x) w)->(l.mapM f).run P w = .ok (l.map g) w
  | [],_=>by simp
  | x::l,h=>by rw [List.mapM_cons];have h1:=h x (qt ..);have h2:=k8l w l fun y a=>h y (qn _ a);simp [h1,h2]
theorem k3n {z:Value} {xs:List AV} (e:z.cells.toList=d.zero) (h:zeroA d=some xs):PW ψ K S w z.cells xs/\∀ x∈xs,x.single=true:=by
  unfold zeroA at h;cases f:d.zero.all (·.oneCell') with
  | false=>rw [f] at h;cases h
  | true=>
    rw [f] at h;simp only [qf,ql] at h;subst h;have a:=qs.1 f;refine ⟨⟨by rw [qag,<- e];simp,fun i v x hv b=>?_⟩,fun x b=>?_⟩
    · simp only [qp,qm] at b
      obtain ⟨u,c,rfl⟩:=b;rw [<- e,qay,hv] at c;injection c with c;subst c;exact .fz (.atom (a v (by rw [<- e];exact Array.mem_toList_iff.2 (Array.mem_of_getElem? hv))))
    · simp only [qa3] at b
      obtain ⟨v,hv,rfl⟩:=b;exact a v hv
def ku3 (T:List (TypeId×TD)):List (TypeId×Nat)->Option (List (Nat×Nat))
  | []=>some []
  | (ft,off)::l=>match kat T ft,ku3 T l with
    | some d,some r=>some ((off,d.size)::r)
    | _,_=>none
theorem k20 (b:TOk P T):∀ {fs:List (TypeId×Nat)} {ps:List (Nat×Nat)},ku3 T fs=some ps->ps=fs.map (fun f=>(f.2,P.cellsOf f.1))/\∀ f∈fs,∀ w,(sizeOf f.1).run P w = .ok (P.cellsOf f.1) w
  | [],ps,h=>by simp [ku3] at h;subst h;exact ⟨rfl,fun f a=>by cases a⟩
  | (ft,off)::l,ps,h=>by
    simp only [ku3] at h;split at h
    · rename_i d r hd hr
      injection h with h;subst h;obtain ⟨h1,h2⟩:=k20 b hr;have hs:P.cellsOf ft=d.size:=(by unfold Program.cellsOf;rw [(b.get hd).info];rfl);refine ⟨by simp [h1,hs],fun f a=>?_⟩;rcases qac.1 a with rfl | a
      · intro w;rw [(b.get hd).size];simp [hs]
      · exact h2 f a
    · cases h
def kfr (st:St) (ps:Array (Nat×Operand)):List (Nat×AV):=ps.toList.map fun p=>(p.1,st.eval p.2)
theorem kpu {ids:List Nat} (h:∀ t,RV ψ (·∈ids) S w (a.tmps.getD t undef) (st.get t)) (ps:Array (Nat×Operand)):
    (ps.map fun (i,x)=>(i,a.eval x)).toList.length=(kfr st ps).length/\∀ (i:Nat) (p:Nat×Value) (q:Nat×AV),(ps.map fun (i,x)=>(i,a.eval x)).toList[i]?=some p->(kfr st ps)[i]?=some q->p.1=q.1/\RV ψ (·∈ids) S w p.2 q.2:=by
  refine ⟨by simp [kfr],fun i p q hp c=>?_⟩;unfold kfr at c;simp only [Array.toList_map,qp,qm] at hp c;obtain ⟨x,d,rfl⟩:=hp;obtain ⟨y,b,rfl⟩:=c;rw [d] at b;injection b with b;subst b;exact ⟨rfl,Sim.eval_tmps h x.2⟩
def k61 (T:List (TypeId×TD)) (st:St) (t:TypeId) (parts:Array (Nat×Operand)):Option AV:=match kat T t with
  | some d=>match d.kind,zeroA d with
    | .st fs,some zs=>match ku3 T fs with
      | some ps=>(kyw (fun i:Nat=>ps[i]?) zs (kfr st parts)).map aggA
      | none=>none
    | .arr _ e,some zs=>match kat T e with
      | some de=>(kyw (fun i:Nat=>some (i*de.size,de.size)) zs (kfr st parts)).map aggA
      | none=>none
    | _,_=>none
  | none=>none
theorem kal4 {parts:Array (Nat×Operand)} {c:AV} (u:TOk P T) (ho:o.op = .build t parts) (hc:k61 T st t parts=some c):NStep P o st c:=by
  intro ψ S a w ht G;unfold k61 at hc;split at hc
  · rename_i d hd
    have hd:=u.get hd;split at hc
    · rename_i fs zs hk y
      split at hc
      · rename_i ps A
        simp only [qm] at hc;obtain ⟨rs,k,rfl⟩:=hc;obtain ⟨gs,B,s⟩:=hd.strct hk;obtain ⟨C,D⟩:=k20 u A;obtain ⟨z,l,m⟩:=hd.zero (w:=w);obtain ⟨e1,e2⟩:=kpu ht parts;obtain ⟨z1,z2⟩:=k3n (ψ:=ψ) (K:=(·∈st.ids)) (S:=S) (w:=w) m y;obtain ⟨r,b,h,p⟩:=k3u (fun i:Nat=>ps[i]?) _ _ _ _ rs z1 z2 e1 e2 k;refine kaj (w':=w) (v := .agg r) ?_ ⟨kai _,(RV.aggA h.1 p h.2).here⟩;have hm:(Array.mapM (fun f:Field=>Prod.mk f.offset <$> sizeOf f.type) gs).run P w = .ok ps.toArray w:=(by rw [Array.mapM_eq_mapM_toList];have:=k8l (P:=P) (f:=fun f:Field=>Prod.mk f.offset <$> sizeOf f.type) (g:=fun f=>(f.offset,P.cellsOf f.type)) w gs.toList fun f F=>(by have:=D (f.type,f.offset) (by rw [<- s];exact qa3.2 ⟨f,F,rfl⟩) w;simp [this]);simp only [Sem.run_map,this];rw [C,<- s];simp);have E:(fun i:Nat=>ps.toArray[i]?)=fun i:Nat=>ps[i]?:=(by funext i;simp);have j:(parts.map fun (i,x)=>(i,a.eval x)).toList=List.map (fun x=>(x.fst,a.eval x.snd)) parts.toList:=(by simp);rw [j] at b;simp [execOp,ho,Instr.build,l,B,hm,E,b]
      · cases hc
    · rename_i n e zs hk y
      split at hc
      · rename_i de q
        have q:=u.get q;simp only [qm] at hc;obtain ⟨rs,k,rfl⟩:=hc;have B:=run_underlying (hd.arr hk) w;obtain ⟨z,l,m⟩:=hd.zero (w:=w);obtain ⟨e1,e2⟩:=kpu ht parts;obtain ⟨z1,z2⟩:=k3n (ψ:=ψ) (K:=(·∈st.ids)) (S:=S) (w:=w) m y;obtain ⟨r,b,h,p⟩:=k3u (fun i:Nat=>some (i*de.size,de.size)) _ _ _ _ rs z1 z2 e1 e2 k;refine kaj (w':=w) (v := .agg r) ?_ ⟨kai _,(RV.aggA h.1 p h.2).here⟩;have j:(parts.map fun (i,x)=>(i,a.eval x)).toList=List.map (fun x=>(x.fst,a.eval x.snd)) parts.toList:=(by simp);rw [j] at b;simp [execOp,ho,Instr.build,l,B,q.size,b]
      · cases hc
    · cases hc
  · cases hc
def arrX (T:List (TypeId×TD)) (st:St) (t:TypeId) (x y:Operand):Option AV:=match kat T t with
  | some d=>match d.kind with
    | .arr n e=>match kat T e,st.eval y with
      | some de, .fz (.atom (.int _ i))=>bif decide (0<=i) && decide (i<n) then kpn st (i.toNat*de.size) (st.eval x) else none
      | _,_=>none
    | _=>none
  | none=>none
theorem kajc {x y:Operand} {c:AV} (l:TOk P T) (ho:o.op = .indexAddr t x y) (hc:arrX T st t x y=some c):NStep P o st c:=by
  intro ψ S a w ht m;unfold arrX at hc;split at hc
  · rename_i d hd
    split at hc
    · rename_i n e hk
      split at hc
      · rename_i de k i f p
        cases g:decide (0<=i) && decide (i<(n:Int)) with
        | false=>rw [g] at hc;cases hc
        | true=>
          rw [g] at hc;simp only [qf] at hc;simp only [q8,decide_eq_true_eq] at g;have hd:=l.get hd;have f:=l.get f;obtain ⟨b,off',hv,hr⟩:=kym (Sim.eval_tmps ht x) m hc;have h:=Sim.eval_tmps ht y;rw [p] at h;have j:=h.atom;refine kaj (w':=w) ?_ ⟨kai _,hr.here⟩;simp [execOp,ho,hv,j,Instr.indexAt,asIntOf,run_underlying (hd.arr hk),Instr.sureAddr,g.1,g.2,f.size,kjj]
      · cases hc
    · cases hc
  · cases hc
end
def krn (size:Nat):Nat->List (Nat×AV)->Option (List FV)
  | _,[]=>some []
  | i,(j, .fz x)::l=>bif Nat.beq j i && (Nat.beq x.cells.length size && x.cells.all FV.single) then (krn size (i+1) l).map (x::·) else none
  | _,_::_=>none
def ktc:AV->Option (List FV)
  | .fz (.lst _ _ xs)=>some xs
  | .lim _ _ xs=>some xs
  | _=>none
def lenOf:AV->Option Nat
  | .fz (.lst _ n _)=>some n
  | .lim _ n _=>some n
  | .fz (.atom (.slice none 0 0))=>some 0
  | _=>none
section
variable {P:Program} {w w':World} {S S':Nat->Prop} {ψ:Env} {K:Nat->Prop} {T:List (TypeId×TD)} {o:Oper} {a:Act} {st:St} {t:TypeId} {d:TD}
theorem RF.lst_inv {v:Value} {size n:Nat} {xs:List FV} (h:RF S w v (.lst size n xs)):∃ (A:Option Addr) (cap:Nat) (css:Nat->List Value),v = .slice A n cap/\n=xs.length/\n<=cap/\cap<=9223372036854775807/\0<size /\
    (∀ (i:Nat) (x:FV),xs[i]?=some x->∃ b o,A=some ⟨b,o,none⟩/\S b/\At w b (o+i*size) (css i)) /\
    (∀ (i:Nat) (x:FV),xs[i]?=some x->(css i).length=size/\x.cells.length=size/\∀ y∈x.cells,y.single=true) /\
    (∀ (i:Nat) (x:FV) (j:Nat) (v:Value) (y:FV),xs[i]?=some x->(css i)[j]?=some v->x.cells[j]?=some y->RF S w v y):=by
  cases h with
  | lst css hn hc hm hs ha hl hr=>exact ⟨_,_,css,rfl,hn,hc,hm,hs,ha,hl,hr⟩
theorem k4m {v:Value} {x:AV} {xs:List FV} (h:RV ψ K S w v x) (a:ktc x=some xs):∃ A cap size n,n=xs.length/\v = .slice A n cap/\RF S w v (.lst size n xs):=by
  cases x with
  | fz x=>
    cases x with
    | lst size n ys=>
      simp only [ktc,ql] at a;subst a;have h:=h.inv;have b:=h;cases h with
      | lst css hn=>exact ⟨_,_,_,n,hn,rfl,b⟩
    | _=>cases a
  | lim size n ys=>
    simp only [ktc,ql] at a;subst a;cases h with
    | lim h=>
      have b:=h;cases h with
      | lst css hn=>exact ⟨_,_,_,n,hn,rfl,b⟩
  | _=>cases a
theorem kaig {v:Value} {x:AV} {n:Nat} (h:RV ψ K S w v x) (a:lenOf x=some n):∃ A cap,v = .slice A n cap:=by
  unfold lenOf at a;split at a
  · injection a with a
    subst a;have h:=h.inv;cases h with
    | lst css hn=>exact ⟨_,_,rfl⟩
  · injection a with a
    subst a;cases h with
    | lim h=>exact ⟨_,_,rfl⟩
  · injection a with a
    subst a;rw [h.atom];exact ⟨_,_,rfl⟩
  · cases a
theorem kabe {x:Operand} {n:Nat} {e:TypeId} (ho:o.op = .call { callee := .builtin .len,args:=#[x],argTypes:=#[t] }) (hd:TdOk P t d) (hk:d.kind = .slice e) (b:lenOf (st.eval x)=some n):NStep P o st (.fz (.atom (.int .i64 n))):=by intro ψ S a w ht c;obtain ⟨A,cap,hv⟩:=kaig (Sim.eval_tmps ht x) b;refine kaj (w':=w) (v := .int .i64 n) ?_ ⟨kai _, .fz (.atom rfl)⟩;simp [execOp,ho,resolve,invoke,builtin,Builtin.len_,run_underlying (hd.slice hk),hv,goInt]
theorem kafg {x:Operand} {s:BA} (ho:o.op = .call { callee := .builtin .len,args:=#[x],argTypes:=#[t] }) (hd:TdOk P t d) (hk:d.kind = .str) (b:st.eval x = .fz (.atom (.string s))):NStep P o st (.fz (.atom (.int .i64 s.size))):=by intro ψ S a w ht c;have h1:=Sim.eval_tmps ht x;rw [b] at h1;refine kaj (w':=w) (v := .int .i64 s.size) ?_ ⟨kai _, .fz (.atom rfl)⟩;simp [execOp,ho,resolve,invoke,builtin,Builtin.len_,run_underlying (hd.str hk),h1.atom,goInt]
theorem kaj3 {x y:Operand} {xs:List FV} {e:TypeId} {de:TD} {k:IntKind} {i:Int} {z:FV} {cs:List FV} (ho:o.op = .indexAddr t x y) (hd:TdOk P t d) (hk:d.kind = .slice e) (f:TdOk P e de) (q:ktc (st.eval x)=some xs)
    (g:∀ z∈xs,z.cells.length=de.size) (h:st.eval y = .fz (.atom (.int k i))) (h0:0<=i) (hi:xs[i.toNat]?=some z) (hc:z.cells=cs):NStep P o st (.fz (.fp cs)):=by
  subst hc;intro ψ S a w ht C;obtain ⟨A,cap,size,n,r,hv,s⟩:=k4m (Sim.eval_tmps ht x) q;have h1:=Sim.eval_tmps ht y;rw [h] at h1;have u:i.toNat<xs.length:=(qo.1 hi).1;obtain ⟨A',cap',css,l,B,hc,hm,hs,ha,hl,hr⟩:=s.lst_inv;obtain ⟨b,off,rfl,hS,m⟩:=ha _ _ hi;obtain ⟨l1,l2,l3⟩:=hl _ _ hi;have p:size=de.size:=by rw [<- g z (qw hi),l2]
  subst p;refine kaj (w':=w) (v := .pointer (some ⟨b,off+i.toNat*de.size,none⟩)) ?_ ⟨kai _,(RV.fz (.fp (css i.toNat) hS m (by rw [l1,l2]) (by omega) l3 fun j v y hv h=>hr _ _ j v y hi hv h)).here⟩;have c:i<(n:Int):=by omega
  simp [execOp,ho,Instr.indexAt,h1.atom,asIntOf,run_underlying (hd.slice hk),l,h0,c,f.size,kjj]
theorem kamy {x y:Operand} {s:BA} {k:IntKind} {i:Int} {c:UInt8} (ho:o.op = .index t x y) (hd:TdOk P t d) (hk:d.kind = .str) (b:st.eval x = .fz (.atom (.string s))) (e:st.eval y = .fz (.atom (.int k i))) (h0:0<=i) (hi:s[i.toNat]?=some c):
    NStep P o st (.fz (.atom (.int .u8 c.toNat))):=by
  intro ψ S a w ht f;have h1:=Sim.eval_tmps ht x;rw [b] at h1;have h2:=Sim.eval_tmps ht y;rw [e] at h2;refine kaj (w':=w) (v := .int .u8 c.toNat) ?_ ⟨kai _, .fz (.atom rfl)⟩;simp [execOp,ho,Instr.index,h1.atom,h2.atom,asIntOf,run_underlying (hd.str hk),h0,hi]
theorem kagb {x y:Operand} {yt:TypeId} {s u:BA} (ho:o.op = .binOp .add t x y yt) (b:st.eval x = .fz (.atom (.string s))) (c:st.eval y = .fz (.atom (.string u))) (hl:s.size+u.size<=9223372036854775807):
    NStep P o st (.fz (.atom (.string (s++u)))):=by
  intro ψ S a w ht e;have h1:=Sim.eval_tmps ht x;rw [b] at h1;have h2:=Sim.eval_tmps ht y;rw [c] at h2;refine kaj (w':=w) (v := .string (s++u)) ?_ ⟨kai _, .fz (.atom rfl)⟩;have hm:IntKind.i64.max=9223372036854775807:=by decide
  have:¬ (((s.size+u.size:Nat):Int) > IntKind.i64.max):=by rw [hm];omega
  have d:(binOp .add t (.string s) (.string u)).run P w = .ok (.string (s++u)) w:=by show (Op.stringOp .add s u).run P w=_;unfold Op.stringOp;simp only [qg this];rfl
  simp [execOp,ho,h1.atom,h2.atom,d,kxa (P:=P) (w:=w) (op := .add) (t:=t) (x:=x) (y:=y) (u := .string s) (v := .string u) rfl]
theorem kam9 {sr:TypeId} {x:Operand} {k k':IntKind} {n:Int} {ds:TD} (ho:o.op = .convert sr t x) (hs:∃ e,P.underlying sr=some e) (hd:P.underlying t=some (.int k)) (b:st.eval x = .fz (.atom (.int k' n))):NStep P o st (.fz (.atom (.int k (k.wrap n)))):=by intro ψ S a w ht d;obtain ⟨e,c⟩:=hs;have h1:=Sim.eval_tmps ht x;rw [b] at h1;refine kaj (w':=w) (v := .int k (k.wrap n)) ?_ ⟨kai _, .fz (.atom rfl)⟩;cases e <;> simp [execOp,ho,h1.atom,convert,run_underlying c,run_underlying hd,Conv.intToInt]
theorem kamc {f:FuncId} {cap:Array Operand} (ho:o.op = .makeFunc (.func f) #[] cap):NStep P o st (.fn f (cap.toList.map st.eval)):=by
  intro ψ S a w ht e;refine kaj (w':=w) (v := .func (.func f) #[] (cap.map a.eval)) ?_ ⟨kai _,(RV.fn (by simp) fun i v x hv c=>?_).here⟩
  · simp [execOp,ho,Instr.makeFunc]
  · simp only [Array.getElem?_map,qm,qp,qay] at hv c
    obtain ⟨y,d,rfl⟩:=hv;obtain ⟨z,b,rfl⟩:=c;rw [d] at b;injection b with b;subst b;exact Sim.eval_tmps ht y
theorem n_mth {f:FuncId} {fst:Array Operand} (ho:o.op = .makeFunc (.func f) fst #[]):NStep P o st (.mth f (fst.toList.map st.eval)):=by
  intro ψ S a w ht e;refine kaj (w':=w) (v := .func (.func f) (fst.map a.eval) #[]) ?_ ⟨kai _,(RV.mth (by simp) fun i v x hv c=>?_).here⟩
  · simp [execOp,ho,Instr.makeFunc]
  · simp only [Array.getElem?_map,qm,qp,qay] at hv c
    obtain ⟨y,d,rfl⟩:=hv;obtain ⟨z,b,rfl⟩:=c;rw [d] at b;injection b with b;subst b;exact Sim.eval_tmps ht y
theorem kx2 {size:Nat}:∀ {i:Nat} {l:List (Nat×AV)} {xs:List FV},krn size i l=some xs->l=(xs.zipIdx i).map (fun p=>(p.2,AV.fz p.1))/\∀ x∈xs,x.cells.length=size/\∀ y∈x.cells,y.single=true
  | i,[],xs,h=>by simp only [krn,ql] at h;subst h;exact ⟨rfl,fun x g=>by cases g⟩
  | i,(j,x)::l,xs,h=>by
    cases x with
    | fz x=>
      simp only [krn] at h;cases a:(Nat.beq j i && (Nat.beq x.cells.length size && x.cells.all FV.single)) with
      | false=>rw [a] at h;cases h
      | true=>
        rw [a] at h;simp only [qf,qm] at h;obtain ⟨ys,b,rfl⟩:=h;simp only [q8] at a;obtain ⟨c,d,e⟩:=a;obtain rfl:=qx c;obtain ⟨h1,h2⟩:=kx2 b;refine ⟨by rw [h1];rfl,fun y f=>?_⟩;rcases qac.1 f with rfl | f
        · exact ⟨qx d,qs.1 e⟩
        · exact h2 y f
    | _=>cases h
theorem n_lit {n:Nat} {parts:Array (Nat×Operand)} {e:TypeId} {de:TD} {xs:List FV} (ho:o.op = .buildSlice t n parts) (hd:TdOk P t d) (hk:d.kind = .slice e) (B:TdOk P e de) (f:0<de.size) (hn:xs.length=n) (R:n*de.size<=16777216)
    (hp:krn de.size 0 (kfr st parts)=some xs):NStep P o st (.lim de.size n xs):=by
  subst hn;intro ψ S a w ht T;obtain ⟨e1,e2⟩:=kpu ht parts;obtain ⟨p1,p2⟩:=kx2 hp
  -- the parts' values
  obtain ⟨vs,s⟩:∃ vs:List Value,vs=parts.toList.map (fun p=>a.eval p.2):=⟨_,rfl⟩;have c:parts.toList.length=xs.length:=by have:(kfr st parts).length=xs.length:=(by rw [p1];simp);simpa [kfr] using this
  have C:vs.length=xs.length:=by rw [s];simp at c ⊢; exact c
  have g:∀ (i:Nat) (x:FV),xs[i]?=some x->∃ v p,vs[i]?=some v/\parts.toList[i]?=some p/\p.1=i/\RF S w v x:=fun i x q=>by have hi:i<parts.toList.length:=(by rw [c];exact (qo.1 q).1);have M:(kfr st parts)[i]?=some (i, .fz x):=(by rw [p1];simp [q]);have A:parts.toList[i]?=some parts.toList[i]:=qc hi;have E:(parts.map fun (i,x)=>(i,a.eval x)).toList[i]?=some (parts.toList[i].1,a.eval parts.toList[i].2):=(by simp [A]);obtain ⟨r1,r2⟩:=e2 i _ _ E M;exact ⟨a.eval parts.toList[i].2,parts.toList[i],by rw [s,qp,A];rfl,A,r1,r2.inv⟩
  have F:(parts.map fun (i,x)=>(i,a.eval x)).toList=(vs.zipIdx 0).map (fun x=>(x.2,x.1)):=by
    apply List.ext_getElem?;intro i;by_cases hi:i<xs.length
    · obtain ⟨v,p,h1,h2,h3,_⟩:=g i xs[i] (qc hi)
      have:v=a.eval p.2:=(by rw [s,qp,h2] at h1;simpa using h1.symm);simp only [Array.toList_map,qp,List.getElem?_zipIdx,h1,h2,qbk,Nat.zero_add];rw [this,h3]
    · rw [qbm (by simp at c ⊢; omega),qbm (by simp [C];omega)]
  have b:∀ v∈vs,v.cells.size=de.size:=fun v hv=>by obtain ⟨i,hi,rfl⟩:=qad.1 hv;obtain ⟨v,p,h1,_,_,G⟩:=g i xs[i] (qc (by omega));rw [qc hi] at h1;injection h1 with h1;rw [h1,(G.cells (p2 _ (qv _)).2).1,(p2 _ (qv _)).1]
  obtain ⟨z,H,N⟩:=B.zero (P:=P) (w:=w);obtain ⟨cells,hcl⟩:∃ cells:Array Value,cells=(vs.flatMap fun v=>v.cells.toList).toArray:=⟨_,rfl⟩;have D:(Instr.buildSlice t xs.length (parts.map fun (i,x)=>(i,a.eval x))).run P w = .ok (.slice (some ⟨w.heap.size,0,none⟩) xs.length xs.length) (w.alloc (.cells cells e)):=by
    have I:¬ xs.length*de.size > 2 ^ 24:=(by omega);have k:∀ c0:Array Value,xs.length*de.size=c0.size->Instr.fill (fun i=>some (i*de.size,de.size)) c0 (parts.map fun (i,x)=>(i,a.eval x)).toList=some cells:=fun c0 J=>(by rw [F,Great.fill_whole f vs c0 b (by rw [C];exact J),hcl]);unfold Instr.buildSlice;rw [Sem.run_bind,run_underlying (hd.slice hk),Result.andThen_ok];simp only [Sem.run_bind,B.size,Result.andThen_ok,qg I];by_cases h0:xs.length*de.size=0
    · simp only [qj h0,Sem.run_bind,Sem.run_pure,Result.andThen_ok]
      rw [k]
      · rfl
      · simp
    · simp only [qg h0,Sem.run_bind,H,Result.andThen_ok,Sem.run_pure]
      rw [k]
      · rfl
      · simp
  refine kaj (w':=w.alloc (.cells cells e)) ?_ ⟨kdd _ _, .lim (.lst (fun i=>(vs.getD i undef).cells.toList) rfl (qy _) ?_ f (fun i x q=>⟨w.heap.size,0,rfl, .inr (qy _),fun j u K=>?_⟩) (fun i x q=>?_) fun i x j v y q hv O=>?_)⟩
  · have l:=D
    simp only [execOp,ho,Sem.run_bind];rw [show (parts.map fun (i,x)=>(i,a.eval x))=parts.map (fun x=>(x.1,a.eval x.2)) from rfl] at l;simp [l]
  · have:xs.length*1<=xs.length*de.size:=Nat.mul_le_mul_left _ f
    omega
  · have hi:=(qo.1 q).1
    have m:vs.getD i undef=vs[i]:=(by simp [List.getD,qc (show i<vs.length by omega)]);rw [m] at K;have L:j<de.size:=(by have:=(qo.1 K).1;rw [qas,b _ (qv _)] at this;exact this);have r:=Great.flat_get f vs b (i*de.size+j);rw [show (i*de.size+j) / de.size=i by rw [Nat.mul_comm,Nat.mul_add_div f,Nat.div_eq_of_lt L];omega,show (i*de.size+j) % de.size=j by rw [Nat.mul_comm,Nat.mul_add_mod,Nat.mod_eq_of_lt L]] at r;rw [qc (show i<vs.length by omega)] at r;simp only [qa] at r;have Q:(w.alloc (.cells cells e)).heap[w.heap.size]?=some (.cells cells e (0,0)):=heap_alloc_new w _;simp only [World.cell?,Q,Nat.zero_add];simp only [Option.isSome_none,qbc,qa4];rw [hcl];simp only [List.getElem?_toArray];rw [r];simpa using K
  · have hi:=(qo.1 q).1
    have m:vs.getD i undef=vs[i]:=(by simp [List.getD,qc (show i<vs.length by omega)]);have:=p2 x (qw q);rw [m];exact ⟨by rw [qas,b _ (qv _)],this.1,this.2⟩
  · obtain ⟨u,p,h1,_,_,G⟩:=g i x q
    have m:vs.getD i undef=u:=(by simp [List.getD,h1]);simp only [m] at hv;have:=(G.cells (p2 x (qw q)).2).2.1 j v y (by simpa using hv) O;exact (this.keep (Same.of_grow (kdd _ _))).mono fun _ h => .inl h
end
def Env.set (ψ:Env) (id n:Nat) (v:Value):Env:=⟨fun i=>if i=id then n else ψ.len i,fun i=>if i=id then v else ψ.val i⟩
section
variable {P:Program} {F S0:Nat->Prop} {N0:Nat} {w w':World} {S S':Nat->Prop} {ψ:Env} {K:Nat->Prop} {T:List (TypeId×TD)} {o:Oper} {a:Act} {st:St} {t:TypeId} {d:TD} {heap:List (Nat×AObj)} {ids:List Nat} {id:Nat}
theorem kes (n:Nat) (v:Value):(ψ.set id n v).len id=n:=by simp [Env.set]
theorem kbp (n:Nat) (v:Value):(ψ.set id n v).val id=v:=by simp [Env.set]
theorem kj1 {i:Nat} (h:i≠id) (n:Nat) (v:Value):(ψ.set id n v).len i=ψ.len i/\(ψ.set id n v).val i=ψ.val i:=by simp [Env.set,h]
theorem ker (h:id∉ids) (n:Nat) (v:Value):Ext (·∈ids) ψ (ψ.set id n v):=fun i hi=>by have hne:i≠id:=fun e=>h (e ▸ hi);obtain ⟨h1,h2⟩:=kj1 (ψ:=ψ) hne n v;exact ⟨by omega,fun _=>h2⟩
theorem k3e {n:Nat} {v:Value} (h:ψ.len id<n\/(ψ.len id=n/\v=ψ.val id)):Ext (·∈ids) ψ (ψ.set id n v):=fun i hi=>by
  by_cases hne:i=id
  · subst hne
    rw [kes,kbp];rcases h with h | ⟨h1,h2⟩
    · exact ⟨by omega,fun e=>by omega⟩
    · exact ⟨by omega,fun _=>h2⟩
  · obtain ⟨h1,h2⟩:=kj1 (ψ:=ψ) hne n v
    exact ⟨by omega,fun _=>h2⟩
theorem Core.addB {n:Nat} {v:Value} {ob:AObj} (h:Core F S0 N0 heap ids ψ S w) (l:Grow w w') (hid:id∉ids) (k:∀ b,Blk v b->w.heap.size<=b)
    (q:ObR (ψ.set id n v) (·∈id::ids) S w' id ob):Core F S0 N0 ((id,ob)::heap) (id::ids) (ψ.set id n v) S w':=by
  have hk:Same S w w':=Same.of_grow l;have c:∀ i,i∈ids->i≠id:=fun i hi e=>hid (e ▸ hi);refine ⟨fun i o' ho=>?_,fun i i' o' o'' b ho d hne g f=>?_,fun b k=>qbp (h.lt b k) l.size,h.s0,qbd h.n0 l.size,fun b k=>qbp (h.fr b k) l.size⟩
  · rw [kae] at ho
    by_cases m:id=i
    · subst m
      rw [qj rfl] at ho;injection ho with ho;subst ho;refine ⟨qt ..,q,fun b a=>?_⟩;rw [kbp] at a;have:=k b a;exact ⟨fun hs=>by have:=h.lt b hs;omega,fun r=>by have:=h.fr b r;omega, .inr (by have:=h.n0;omega)⟩
    · rw [qg m] at ho
      obtain ⟨h1,h2,h3⟩:=h.obj i o' ho;have o:=kj1 (ψ:=ψ) (c i h1) n v;refine ⟨qn _ h1,h2.keep (ker hid n v) (fun _ h=>qn _ h) (fun _ h=>h) hk o fun b a=>l.block b (h2.lt a),fun b a=>h3 b (by rw [o.2] at a;exact a)⟩
  · rw [kae] at ho d
    by_cases m:id=i
    · subst m
      by_cases j:id=i'
      · exact hne j
      · rw [qg j] at d
        obtain ⟨h1,h2,h3⟩:=h.obj i' o'' d;rw [kbp] at g;rw [(kj1 (ψ:=ψ) (c i' h1) n v).2] at f;have:=k b g;have:=h2.lt f;omega
    · rw [qg m] at ho
      obtain ⟨h1,h2,h3⟩:=h.obj i o' ho;rw [(kj1 (ψ:=ψ) (c i h1) n v).2] at g;by_cases j:id=i'
      · subst j
        rw [kbp] at f;have:=k b f;have:=h2.lt g;omega
      · rw [qg j] at d
        obtain ⟨p,s,t⟩:=h.obj i' o'' d;rw [(kj1 (ψ:=ψ) (c i' p) n v).2] at f;exact h.inj i i' o' o'' b ho d hne g f
theorem Core.add {n:Nat} {v:Value} {ob:AObj} (h:Core F S0 N0 heap ids ψ S w) (e:Grow w w') (hid:id∉ids) (f:∀ b,kby v=some b->w.heap.size<=b)
    (g:ObR (ψ.set id n v) (·∈id::ids) S w' id ob) (c:kot v=[]:=by rfl):Core F S0 N0 ((id,ob)::heap) (id::ids) (ψ.set id n v) S w':=
  h.addB e hid (fun b a=>f b (by
    rcases a with a | ⟨u,d,_⟩
    · exact a
    · rw [c] at d;cases d)) g
theorem Core.upd {n:Nat} {v:Value} {ob ob':AObj} (h:Core F S0 N0 heap ids ψ S w) (ho:kab heap id=some ob) (q:w.heap.size<=w'.heap.size) (l:∀ k,k<w.heap.size->¬ Blk (ψ.val id) k->w'.heap[k]?=w.heap[k]?)
    (x:ψ.len id<n\/(ψ.len id=n/\v=ψ.val id)) (o:∀ b,Blk v b->Blk (ψ.val id) b\/w.heap.size<=b) (y:ObR (ψ.set id n v) (·∈ids) S w' id ob'):
    Core F S0 N0 ((id,ob')::heap) ids (ψ.set id n v) S w'/\Same S w w'/\∀ b,F b->w'.heap[b]?=w.heap[b]?:=by
  obtain ⟨hid,z,r⟩:=h.obj id ob ho;have hk:Same S w w':=fun b o hl=>l b hl fun e=>(r b e).1 o;refine ⟨⟨fun i o' a=>?_,fun i i' o' o'' b m d hne j f=>?_,fun b o=>qbp (h.lt b o) q,h.s0,qbd h.n0 q,fun b o=>qbp (h.fr b o) q⟩,hk,fun b u=>l b (h.fr b u) fun e=>(r b e).2.1 u⟩
  · rw [kae] at a
    by_cases p:id=i
    · subst p
      rw [qj rfl] at a;injection a with a;subst a;refine ⟨hid,y,fun b c=>?_⟩;rw [kbp] at c;rcases o b c with h1 | h1
      · exact r b h1
      · exact ⟨fun hs=>by have:=h.lt b hs;omega,fun u=>by have:=h.fr b u;omega, .inr (by have:=h.n0;omega)⟩
    · rw [qg p] at a
      obtain ⟨h1,h2,h3⟩:=h.obj i o' a;have s:=kj1 (ψ:=ψ) (Ne.symm p) n v;refine ⟨h1,h2.keep (k3e x) (fun _ h=>h) (fun _ h=>h) hk s fun b c=>l b (h2.lt c) fun e=>h.inj i id o' ob b a ho (Ne.symm p) c e,fun b c=>h3 b (by rw [s.2] at c;exact c)⟩
  · rw [kae] at m d
    by_cases p:id=i
    · subst p
      by_cases g:id=i'
      · exact hne g
      · rw [qg g] at d
        obtain ⟨h1,h2,h3⟩:=h.obj i' o'' d;rw [kbp] at j;rw [(kj1 (ψ:=ψ) (Ne.symm g) n v).2] at f;rcases o b j with t | t
        · exact h.inj id i' ob o'' b ho d hne t f
        · have:=h2.lt f;omega
    · rw [qg p] at m
      obtain ⟨h1,h2,h3⟩:=h.obj i o' m;rw [(kj1 (ψ:=ψ) (Ne.symm p) n v).2] at j;by_cases g:id=i'
      · subst g
        rw [kbp] at f;rcases o b f with t | t
        · exact h.inj i id o' ob b m ho hne j t
        · have:=h2.lt j;omega
      · rw [qg g] at d
        obtain ⟨A,B,C⟩:=h.obj i' o'' d;rw [(kj1 (ψ:=ψ) (Ne.symm g) n v).2] at f;exact h.inj i i' o' o'' b m d hne j f
theorem koz (ob:Obj) (a:∀ b,F b->b<w.heap.size):Fr F w (w.alloc ob):=Fr.of_grow a (kdd w ob)
theorem e_box {e:TypeId} {x:Operand} {cells:List AV} (ho:o.op = .box e x) (f:(st.eval x).cells=cells) (h1:cells.all AV.single=true) (hid:st.ids.contains id=false):
    kcx P o st (.ref id 0 0) ((id, .box e cells)::st.heap) (id::st.ids):=by
  subst f;have hs:∀ y∈(st.eval x).cells,y.single=true:=qs.1 h1;have hid:id∉st.ids:=by simpa using hid
  intro F S0 N0 ψ S a w d;obtain ⟨e1,e2,e3⟩:=RV.cells (d.eval x) hs;have c:=d.core;refine kaj (w':=w.alloc (.cells (a.eval x).cells e)) (v := .pointer (some ⟨w.heap.size,0,none⟩)) ?_ ⟨ψ.set id 0 (.pointer (some ⟨w.heap.size,0,none⟩)),S,?_,?_,koz _ c.fr,ker hid _ _,fun _ h=>qn _ h,fun _ h=>h,Same.of_grow (kdd _ _)⟩
  · simp [execOp,ho,Instr.box,newVar,newRow]
  · refine c.add (kdd _ _) hid (fun b g=>by simp [kby] at g;omega) ⟨kes _ _,w.heap.size,_,kbp _ _,heap_alloc_new w _,e1,hs,fun i v y hv j=>?_⟩
    exact (e2 i v y hv j).keep (ker hid _ _) (fun _ h=>qn _ h) (fun _ h=>h) (Same.of_grow (kdd _ _))
  · exact .ref (qt ..) (qz _) rfl fun _=>⟨w.heap.size,by rw [kbp];rfl,rfl⟩
theorem k89 {e:TypeId} {cells:List AV} (ho:o.op = .alloc e) (hd:TdOk P e d) (k:zeroA d=some cells) (hid:st.ids.contains id=false):
    kcx P o st (.ref id 0 0) ((id, .box e cells)::st.heap) (id::st.ids):=by
  have hid:id∉st.ids:=by simpa using hid
  intro F S0 N0 ψ S a w f;obtain ⟨z,g,j⟩:=hd.zero (P:=P) (w:=w);obtain ⟨z1,z2⟩:=k3n (ψ:=ψ) (K:=(·∈st.ids)) (S:=S) (w:=w) j k;have c:=f.core;refine kaj (w':=w.alloc (.cells z.cells e)) (v := .pointer (some ⟨w.heap.size,0,none⟩)) ?_ ⟨ψ.set id 0 (.pointer (some ⟨w.heap.size,0,none⟩)),S,?_,?_,koz _ c.fr,ker hid _ _,fun _ h=>qn _ h,fun _ h=>h,Same.of_grow (kdd _ _)⟩
  · simp [execOp,ho,Instr.alloc,g,newVar,newRow]
  · refine c.add (kdd _ _) hid (fun b l=>by simp [kby] at l;omega) ⟨kes _ _,w.heap.size,_,kbp _ _,heap_alloc_new w _,z1.1,z2,fun i v y hv m=>?_⟩
    exact (z1.2 i v y hv m).keep (ker hid _ _) (fun _ h=>qn _ h) (fun _ h=>h) (Same.of_grow (kdd _ _))
  · exact .ref (qt ..) (qz _) rfl fun _=>⟨w.heap.size,by rw [kbp];rfl,rfl⟩
theorem kwp (g:Nat) (cs:Array Value) (k:Nat) (h:k≠g):(w.setRow g cs).heap[k]?=w.heap[k]?:=by simp only [World.setRow,Array.getElem?_modify];rw [qg (fun e=>h e.symm)]
theorem kuy (g:Nat) {cs cs':Array Value} {e:TypeId} {fr:Nat×Nat} (h:w.heap[g]?=some (.cells cs e fr)):(w.setRow g cs').heap[g]?=some (.cells cs' e fr):=by simp [World.setRow,Array.getElem?_modify,h]
theorem kaao {e:TypeId} {x y:Operand} {off:Nat} {cells ys:List AV} (ho:o.op = .store t x y) (hd:TdOk P t d) (I:st.eval x = .ref id 0 off) (B:kab st.heap id=some (.box e cells)) (J:(st.eval y).cells=ys) (hl:ys.length=d.size) (h1:ys.all AV.single=true)
    (C:off+ys.length<=cells.length):kcx P o st .any ((id, .box e (kjf cells off ys))::st.heap) st.ids:=by
  subst J;have hs:∀ z∈(st.eval y).cells,z.single=true:=qs.1 h1;intro F S0 N0 ψ S a w r;obtain ⟨e1,e2,e3⟩:=RV.cells (r.eval y) hs;have f:=r.core;obtain ⟨hid,⟨h0,b,cs,g,E,s,j,hr⟩,G⟩:=f.obj id _ B;have hv:=r.eval x;rw [I] at hv;have H:a.eval x = .pointer (some ⟨b,off,none⟩):=by
    generalize a.eval x=u at hv;cases hv with
    | ref hK hn h1 hv=>
      obtain ⟨b',A,rfl⟩:=hv h0.symm;rw [g] at A;simp only [kby,ql] at A;rw [A]
  have hst:=run_storeCells_at (P:=P) b off e (a.eval y).cells.toList 0 cs w E (by simp [e1,s];omega) e3;simp only [Nat.add_zero,qas] at hst;obtain ⟨new,l⟩:∃ new:Array Value,new=(cs.toList.take off++(a.eval y).cells.toList++cs.toList.drop (off+(a.eval y).cells.size)).toArray:=⟨_,rfl⟩;rw [<- l] at hst;have D:new.toList=kjf cs.toList off (a.eval y).cells.toList:=by rw [l];simp [kjf,qan]
  have K:(w.setRow b new).heap.size=w.heap.size:=by simp [World.setRow]
  have m:∀ k,k<w.heap.size->¬ Blk (ψ.val id) k->(w.setRow b new).heap[k]?=w.heap[k]?:=fun k _ hk=>kwp b new k fun e=>hk (.of (by rw [g,e];rfl));have p:ψ.set id 0 (ψ.val id)=ψ:=by
    unfold Env.set;congr 1
    · funext i;split
      · rename_i h;rw [h,h0]
      · rfl
    · funext i;split
      · rename_i h;rw [h]
      · rfl
  have hk:Same S w (w.setRow b new):=fun k hk hl=>m k hl fun e=>(G k e).1 hk;obtain ⟨c1,c2,c3⟩:=f.upd (n:=0) (v:=ψ.val id) (w':=w.setRow b new) (ob' := .box e (kjf cells off (st.eval y).cells)) B (by omega) m (.inr ⟨h0,rfl⟩) (fun b E => .inl E) (by
    rw [p];have q:off+(a.eval y).cells.toList.length<=cs.toList.length:=(by simp [e1,s];omega);refine ⟨h0,b,new,g,kuy b E,?_,fun z c=>?_,fun i v z hv c=>?_⟩
    · rw [<- qas,D,kqd _ _ _ q,kqd _ _ _ C];simpa using s
    · unfold kjf at c
      simp only [qao] at c;rcases c with c | c | c
      · exact j z (List.mem_of_mem_take c)
      · exact hs z c
      · exact j z (List.mem_of_mem_drop c)
    · rw [<- qay,D,kur _ _ _ q] at hv
      rw [kur _ _ _ C] at c;simp only [qas,e1] at hv;split at hv
      · rename_i hi
        rw [qj hi] at c;exact (e2 _ v z (by simpa using hv) c).keep Ext.refl (fun _ h=>h) (fun _ h=>h) hk
      · rename_i hi
        rw [qg hi] at c;exact (hr _ v z (by simpa using hv) c).keep Ext.refl (fun _ h=>h) (fun _ h=>h) hk)
  rw [p] at c1;refine kps (w':=w.setRow b new) ?_ ⟨ψ,S,c1, .any,⟨rfl,rfl,rfl,by omega,c3⟩,Ext.refl,fun _ h=>h,fun _ h=>h,c2⟩;simp only [execOp,ho,Instr.storeAt,H,Instr.sureAddr,storeVar,hd.size,Sem.run_bind,Sem.run_pure,Result.andThen_ok];rw [qg (by rw [e1,hl];simp)];simp [hst]
end
section
variable {P:Program} {F S0:Nat->Prop} {N0:Nat} {w w':World} {S S':Nat->Prop} {ψ:Env} {K:Nat->Prop} {T:List (TypeId×TD)} {o:Oper} {a:Act} {st:St} {t:TypeId} {d:TD} {heap:List (Nat×AObj)} {ids:List Nat} {id:Nat}
def RowR (S:Nat->Prop) (w:World) (size:Nat) (xs:List FV) (cs:List Value):Prop:=
  ∀ (i:Nat) (x:FV) (j:Nat) (v:Value) (y:FV),xs[i]?=some x->cs[i*size+j]?=some v->x.cells[j]?=some y->RF S w v y
def ElR (size:Nat) (xs:List FV):Prop:=∀ x∈xs,x.cells.length=size/\∀ y∈x.cells,y.single=true
theorem RowR.append {size:Nat} {xs ys:List FV} {cs news:List Value} (hs:0<size) (h:RowR S w size xs cs) (k:RowR S w size ys news) (hl:cs.length=xs.length*size) (c:ElR size xs):RowR S w size (xs++ys) (cs++news):=by
  intro i x j v y hi hv b;by_cases a:i<xs.length
  · rw [qav a] at hi
    have d:j<size:=(by have:=(qo.1 b).1;rw [(c x (qw hi)).1] at this;exact this);have:(i+1)*size<=xs.length*size:=qa7 _ a;rw [qbn] at this;rw [qav (by omega)] at hv;exact h i x j v y hi hv b
  · rw [qa5 (by omega)] at hi
    have:xs.length*size<=i*size:=qa7 _ (by omega);rw [qa5 (by omega),hl,show i*size+j - xs.length*size=(i - xs.length)*size+j by rw [Nat.sub_mul];omega] at hv;exact k _ x j v y hi hv b
theorem RowR.keep {size:Nat} {xs:List FV} {cs:List Value} (h:RowR S w size xs cs) (hk:Same S w w'):RowR S w' size xs cs:=fun i x j v y h1 h2 h3=>(h i x j v y h1 h2 h3).keep hk
theorem kajy {e:TypeId} {de:TD} {t ty:TypeId} (ht:P.underlying t=some (.slice e)) (H:TdOk P e de) (p:0<de.size) (I:de.zero.length=de.size) {v s:Value} {n m:Nat} {cs:List Value} {zs:List FV} (a:w.ownsRow 0 e de.size v n cs) (hs:RF S w s (.lst de.size m zs))
    (J:n+zs.length<=9223372036854775807) (f:(n+zs.length)*de.bytes<=140737488355328):
    ∃ v' w' news,(Builtin.append_ #[t,t] ty #[v,s]).run P w = .ok v' w'/\w'.ownsRow 0 e de.size v' (n+zs.length) (cs++news)/\w.grownBy w' v.ownBlock/\(v'.ownBlock=v.ownBlock\/v'.ownBlock=some w.heap.size)/\news.length=zs.length*de.size /\
      RowR S w de.size zs news/\ElR de.size zs/\(zs=[]->v'=v):=by
  obtain ⟨A,cap,css,rfl,rfl,hc,hm,_,ha,hl,hr⟩:=hs.lst_inv;have k:ElR de.size zs:=fun x G=>by obtain ⟨i,hi,rfl⟩:=qad.1 G;exact (hl i _ (qc hi)).2
  obtain ⟨⟨i,z,hi,q,r,B,K⟩,_⟩:=H;have C:z.cells.size=de.size:=by rw [<- qas,K,I]
  by_cases D:zs=[]
  · subst D
    cases A with
    | none=>exact ⟨v,w,[],kzv 0 t ty e i de.size ht hi v n cs a cap,by simpa using a,World.grownBy.refl w _, .inl rfl,by simp,(fun i x j v y h=>by simp at h),k,fun _=>rfl⟩
    | some ad=>
      obtain ⟨v',w',d,h2,h3,U,L⟩:=run_append_own_at (P:=P) w 0 t ty e i z de.size de.bytes ht hi B q r C p v n cs a ad 0 cap [] (by simp) (fun j u h=>by simp at h) (by simp) (by unfold maxLen;simp at J;omega) (by simpa using f) (by omega);have M:v'=v:=by
        have hn:(Builtin.append_ #[t,t] ty #[v, .slice (some ad) 0 cap]).run P w = .ok v w:=by
          rcases a.2 with ⟨rfl,rfl⟩ | ⟨g,cap',cur,rfl,_,_,N,_⟩
          · simp [Builtin.append_,run_underlying ht,sizeOf,typeInfo,hi,Builtin.lenOf,Builtin.firstCells,loadCells,loadCellsFrom]
          · simp [Builtin.append_,run_underlying ht,sizeOf,typeInfo,hi,Builtin.lenOf,Builtin.firstCells,N,storeCells,loadCells,loadCellsFrom]
        rw [hn] at d;injection d with h1 h2;exact h1.symm
      exact ⟨v',w',[],d,by simpa using h2,h3,L,by simp,(fun i x j v y h=>by simp at h),k,fun _=>M⟩
  · obtain ⟨y0,ys,rfl⟩:∃ y0 ys,zs=y0::ys:=by
      cases zs with
      | nil=>exact absurd rfl D
      | cons y ys=>exact ⟨y,ys,rfl⟩
    obtain ⟨b,off,rfl,_,_⟩:=ha 0 y0 rfl;obtain ⟨news,hn,l,T⟩:=k88 (b:=b) (w:=w) (size:=de.size) (Q:=fun c y=>(∀ j v z,c[j]?=some v->y.cells[j]?=some z->RF S w v z)/\(∀ u∈c,u.oneCell'=true)) (y0::ys) off fun i y o=>(by obtain ⟨b',o',hA,_,l⟩:=ha i y o;injection hA with hA;injection hA with e1 e2;subst e1 e2;obtain ⟨l1,l2,l3⟩:=hl i y o;refine ⟨css i,l,l1,fun j v z hv p=>hr i y j v z o hv p,fun u O=>?_⟩;obtain ⟨j,E,rfl⟩:=qad.1 O;have F:j<y.cells.length:=(by omega);exact (hr i y j _ _ o (qc E) (qc F)).one (l3 _ (qv F)));have h1:∀ u∈news,u.oneCell'=true:=(by intro u O;obtain ⟨j,E,rfl⟩:=qad.1 O;have R:j / de.size<(y0::ys).length:=(by rw [Nat.div_lt_iff_lt_mul p];omega);refine (T (j / de.size) _ (qc R)).2 _ ?_;rw [qbs];refine ⟨j % de.size,?_⟩;rw [qaj,qj (Nat.mod_lt _ p),qat,show j / de.size*de.size+j % de.size=j by rw [Nat.mul_comm];exact Nat.div_add_mod j de.size];exact qc E);obtain ⟨v',w',d,h2,h3,U,L⟩:=run_append_own_at (P:=P) w 0 t ty e i z de.size de.bytes ht hi B q r C p v n cs a ⟨b,off,none⟩ (y0::ys).length cap news hn
      (fun j u h=>by rw [kjj];exact l j u h) h1 (by unfold maxLen;omega) f (by omega)
    refine ⟨v',w',news,d,h2,h3,L,hn,fun i x j v y G hv o=>?_,k,fun h=>by cases h⟩;have E:j<de.size:=(by have:=(qo.1 o).1;rw [(k x (qw G)).1] at this;exact this);refine (T i x G).1 j v y ?_ o;rw [qaj,qj E,qat];exact hv
theorem k9z {v:Value} {e:TypeId} {size n:Nat} {cs:List Value} (h:w.ownsRow 0 e size v n cs):kby v=v.ownBlock:=by rcases h.2 with ⟨rfl,_⟩ | ⟨g,cap,cur,rfl,_⟩ <;> rfl
theorem kyo {v:Value} {e:TypeId} {size n b:Nat} {cs:List Value} (h:w.ownsRow 0 e size v n cs) (a:v.ownBlock=some b):Blk v b := .of (by rw [k9z h];exact a)
theorem k9w {v:Value} {e:TypeId} {size n b:Nat} {cs:List Value} (h:w.ownsRow 0 e size v n cs) (a:Blk v b):v.ownBlock=some b:=by rw [<- k9z h];rcases h.2 with ⟨rfl,_⟩ | ⟨g,cap,cur,rfl,_⟩ <;> exact a.sl
theorem kaar {v:Value} {e:TypeId} {size n:Nat} {cs:List Value} (h:w.ownsRow 0 e size v n cs):v.oneCell'=true:=by rcases h.2 with ⟨rfl,_⟩ | ⟨g,cap,cur,rfl,_⟩ <;> rfl
theorem kagf {x y:Operand} {e:TypeId} {de:TD} {n m:Nat} {xs zs:List FV} (ho:o.op = .call { callee := .builtin .append,args:=#[x,y],argTypes:=#[t,t] }) (hd:TdOk P t d) (hk:d.kind = .slice e) (M:TdOk P e de) (N:0<de.size) (O:de.zero.length=de.size)
    (Y:st.eval x = .row id n) (B:kab st.heap id=some (.frow e de.size xs)) (hn:n=xs.length) (C:st.eval y = .fz (.lst de.size m zs)\/st.eval y = .lim de.size m zs) (D:(xs.length+zs.length)*(de.bytes+1)<=140737488355328):
    kcx P o st (.row id (xs++zs).length) ((id, .frow e de.size (xs++zs))::st.heap) st.ids:=by
  subst hn;intro F S0 N0 ψ S a w q;have l:=q.core;obtain ⟨hid,⟨h0,E,cs,g,G,hr⟩,Q⟩:=l.obj id _ B;have hv:=q.eval x;rw [Y] at hv;have R:a.eval x=ψ.val id:=by
    generalize a.eval x=u at hv;cases hv with
    | row hK hn h1 hv=>exact hv h0.symm
  have T:RF S w (a.eval y) (.lst de.size m zs):=by
    have hv:=q.eval y;rcases C with C | C
    · rw [C] at hv;exact hv.inv
    · rw [C] at hv
      generalize a.eval y=u at hv;cases hv with
      | lim h=>exact h
  have r:=D;rw [Nat.mul_add,Nat.mul_one] at r;obtain ⟨v',w',news,H,f,c,I,Z,U,J,K⟩:=kajy (ty:=o.type) (hd.slice hk) M N O g T (by omega) (by omega);have V:(xs++zs).length=xs.length+zs.length:=qr;have L:ψ.len id<(xs++zs).length\/(ψ.len id=(xs++zs).length/\v'=ψ.val id):=by
    by_cases s:zs=[]
    · refine .inr ⟨by rw [h0,s];simp,K s⟩
    · have:0<zs.length:=List.length_pos_iff.2 s
      exact .inl (by omega)
  have p:∀ k,k<w.heap.size->¬ Blk (ψ.val id) k->w'.heap[k]?=w.heap[k]?:=fun k hk hne=>c.block k hk fun e=>hne (kyo g e.symm);have X:Same S w w':=fun k hk hl=>p k hl fun e=>(Q k e).1 hk;obtain ⟨c1,c2,c3⟩:=l.upd (n:=(xs++zs).length) (v:=v') (w':=w') (ob' := .frow e de.size (xs++zs)) B c.size p L (fun b A=>by
      have A:=k9w f A;rcases I with h | h
      · exact .inl (kyo g (h ▸ A))
      · rw [h] at A;injection A with A;exact .inr (by omega))
    ⟨kes _ _,E,cs++news,by rw [kbp,V];exact f,fun z N=>(qao.1 N).elim (G z) (J z),(RowR.append E (fun i x j v y h1 h2 h3=>hr i x j v y h1 h2 h3) U g.1 G).keep X⟩
  refine kaj (w':=w') (v:=v') ?_ ⟨_,S,c1, .row hid (by rw [kes];exact qy _) (kaar f) (fun _=>(kbp _ _).symm),⟨c.os,c.tape,c.output,c.size,c3⟩,k3e L,fun _ h=>h,fun _ h=>h,c2⟩;simp only [execOp,ho,resolve,invoke,builtin,Sem.run_bind,Sem.run_pure,Result.andThen_ok,List.map_toArray,qa8,List.map_nil,R,H]
theorem kjx {e:TypeId} {size t:Nat} (d:0<size) (c:st.get t = .fz (.atom (.slice none 0 0)):=by kernel_rfl) (hid:st.ids.contains id=false:=by kernel_rfl):
    LeSt st { st with tmps:=(t, .row id 0)::st.tmps,heap:=(id, .frow e size [])::st.heap,ids:=id::st.ids }:=by
  have hid:id∉st.ids:=by simpa using hid
  intro F S0 N0 ψ S a w hs;have hadd:=hs.core.add (n:=0) (v := .slice none 0 0) (w':=w) (ob := .frow e size []) (kai _) hid (fun b f=>by cases f) ⟨kes _ _,d,[],by rw [kbp];exact ⟨by simp, .inl ⟨rfl,rfl⟩⟩,(fun x c=>by cases c),fun i x j v y h=>by simp at h⟩;refine ⟨ψ.set id 0 (.slice none 0 0),S,hs.defers,hs.size,fun k=>?_,hadd⟩;simp only [St.get,kdt];split
  · rename_i hk
    subst hk;have:=hs.tmps t;rw [c] at this;rw [this.atom];exact .row (qt ..) (qz _) rfl fun _=>(kbp _ _).symm
  · exact (hs.tmps k).keep (ker hid _ _) (fun _ h=>qn _ h) (fun _ h=>h) (fun _ _ _=>rfl)
end
end Go.Proofs.YtaimpcnpifoidaaGreatDoor
