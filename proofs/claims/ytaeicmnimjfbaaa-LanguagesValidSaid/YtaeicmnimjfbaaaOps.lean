/- One operation, computed: a function on abstract states, and why it is right. -/
import Derived.Test.YtaeicmnimjfbaaaSim
import Derived.Laws.CopyRow
import Derived.Laws.Rows
set_option linter.unusedVariables false
set_option linter.unusedSimpArgs false
namespace Go.Proofs.Ytaeicmnimjfbaaa
open Go Go.RowKit

/-- what is told of a type -/
inductive TK where
  | bool
  | int (k : IntKind)
  | str
  | ptr (e : TypeId)
  | slice (e : TypeId)
  | map (k e : TypeId)
  | fn
  | ifc
  | arr (n : Nat) (e : TypeId)
  | st (fs : List (TypeId × Nat))
structure TD where
  size : Nat
  bytes : Nat
  kind : TK
  zero : List Value
def TK.agg : TK → Bool
  | .arr _ _ => true
  | .st _ => true
  | _ => false
def kindOk : TypeDesc → TK → Prop
  | .bool, .bool => True
  | .int k, .int k' => k = k'
  | .string, .str => True
  | .pointer e, .ptr e' => e = e'
  | .slice e, .slice e' => e = e'
  | .map k e, .map k' e' => k = k' ∧ e = e'
  | .func _ _ _, .fn => True
  | .interface _, .ifc => True
  | .array n e, .arr n' e' => n = n' ∧ e = e'
  | .struct fs, .st gs => fs.toList.map (fun f => (f.type, f.offset)) = gs
  | _, _ => False
def TdOk (P : Program) (t : TypeId) (d : TD) : Prop :=
  (∃ i z, P.info? t = some i ∧ i.size = d.size ∧ i.bytes = d.bytes ∧ i.zero = some z ∧ z.cells.toList = d.zero) ∧ ∃ e, P.underlying t = some e ∧ kindOk e d.kind
def lookT : List (TypeId × TD) → TypeId → Option TD
  | [], _ => none
  | (k, v) :: l, t => bif Nat.beq k t then some v else lookT l t
def TOk (P : Program) (T : List (TypeId × TD)) : Prop := ∀ p ∈ T, TdOk P p.1 p.2
theorem TOk.get {P : Program} {T : List (TypeId × TD)} (h : TOk P T) {t : TypeId} {d : TD} (ht : lookT T t = some d) : TdOk P t d := by
  induction T with
  | nil => cases ht
  | cons p l ih =>
    obtain ⟨k, v⟩ := p
    simp only [lookT] at ht
    by_cases hk : k = t
    · subst hk
      simp only [Nat.beq_refl, cond_true, Option.some.injEq] at ht
      subst ht
      exact h _ (List.mem_cons_self ..)
    · rw [Nat.beq_eq_false hk] at ht
      exact ih (fun p hp => h p (List.mem_cons_of_mem _ hp)) ht

/-- numbers -/
def intV (k : IntKind) (op : BinOp) (a b : Int) : Option Value := match op with
  | .add => some (.int k (k.wrap (a + b)))
  | .sub => some (.int k (k.wrap (a - b)))
  | .mul => some (.int k (k.wrap (a * b)))
  | .quo => if b = 0 then none else some (.int k (k.wrap (a.tdiv b)))
  | .rem => if b = 0 then none else some (.int k (a.tmod b))
  | .and => some (.int k (k.wrap (BitVec.ofInt k.bits a &&& BitVec.ofInt k.bits b).toNat))
  | .or => some (.int k (k.wrap (BitVec.ofInt k.bits a ||| BitVec.ofInt k.bits b).toNat))
  | .xor => some (.int k (k.wrap (BitVec.ofInt k.bits a ^^^ BitVec.ofInt k.bits b).toNat))
  | .andNot => some (.int k (k.wrap (BitVec.ofInt k.bits a &&& ~~~BitVec.ofInt k.bits b).toNat))
  | .eql => some (.bool (a == b))
  | .neq => some (.bool (a != b))
  | .lss => some (.bool (decide (a < b)))
  | .leq => some (.bool (decide (a ≤ b)))
  | .gtr => some (.bool (decide (b < a)))
  | .geq => some (.bool (decide (b ≤ a)))
  | _ => none
def shV (k : IntKind) (op : BinOp) (a b : Int) : Option Value := match op with
  | .shl => if b < 0 then none else some (.int k (k.wrap (a * 2 ^ (min b.toNat k.bits))))
  | .shr => if b < 0 then none else some (.int k (a.fdiv (2 ^ (min b.toNat k.bits))))
  | _ => none
def strV (op : BinOp) (x y : ByteArray) : Option Value := match op with
  | .eql => some (.bool (x.toList == y.toList))
  | .neq => some (.bool !(x.toList == y.toList))
  | .lss => some (.bool (Op.bytesLess x.toList y.toList))
  | .leq => some (.bool (Op.bytesLess x.toList y.toList || x.toList == y.toList))
  | .gtr => some (.bool !(Op.bytesLess x.toList y.toList || x.toList == y.toList))
  | .geq => some (.bool !(Op.bytesLess x.toList y.toList))
  | _ => none
def binV (bt : Bool) (op : BinOp) : Value → Value → Option Value
  | .int k a, .int k' b => match op with
    | .shl => shV k .shl a b
    | .shr => shV k .shr a b
    | op => if k = k' then intV k op a b else none
  | .string x, .string y => strV op x y
  | .bool x, .bool y => match bt, op with
    | true, .eql => some (.bool (x == y))
    | true, .neq => some (.bool (!(x == y)))
    | _, _ => none
  | _, _ => none
def unV (op : UnOp) : Value → Option Value
  | .int k n => match op with
    | .neg => some (.int k (k.wrap (0 - n)))
    | .xor => some (.int k (k.wrap (BitVec.ofInt k.bits (if k.signed then -1 else k.max) ^^^ BitVec.ofInt k.bits n).toNat))
    | _ => none
  | .bool b => match op with
    | .not => some (.bool !b)
    | _ => none
  | _ => none

section
variable {P : Program} {w w' : World} {S S' : Nat → Prop} {ψ : Env} {K : Nat → Prop} {T : List (TypeId × TD)} {o : Oper} {a : Act} {st : St}

theorem run_intOp {op : BinOp} {t : TypeId} {k : IntKind} {a b : Int} {v : Value} (hs : op ≠ .shl ∧ op ≠ .shr) (h : intV k op a b = some v) : (binOp op t (.int k a) (.int k b)).run P w = .ok v w := by
  cases op <;> simp only [intV] at h <;> first
    | exact absurd rfl hs.1
    | exact absurd rfl hs.2
    | (injection h with h; subst h; simp only [binOp, ne_eq, not_true_eq_false, if_false]; rfl)
    | (split at h
       · cases h
       · rename_i hz
         injection h with h; subst h; simp only [binOp, ne_eq, not_true_eq_false, if_false, Op.intDiv, if_neg hz]; rfl)
theorem run_shOp {op : BinOp} {t : TypeId} {k k' : IntKind} {a b : Int} {v : Value} (hs : op = .shl ∨ op = .shr) (h : shV k op a b = some v) : (binOp op t (.int k a) (.int k' b)).run P w = .ok v w := by
  rcases hs with rfl | rfl <;> simp only [shV] at h <;>
    (split at h
     · cases h
     · rename_i hlt
       injection h with h; subst h; simp only [binOp, Op.shift, if_neg hlt]; rfl)
theorem run_strOp {op : BinOp} {t : TypeId} {x y : ByteArray} {v : Value} (h : strV op x y = some v) : (binOp op t (.string x) (.string y)).run P w = .ok v w := by
  cases op <;> simp only [strV] at h <;> first
    | (injection h with h; subst h; rfl)
    | cases h
theorem run_binV {bt : Bool} {op : BinOp} {t : TypeId} {x y v : Value} (hb : bt = true → P.underlying t = some .bool) (h : binV bt op x y = some v) : (binOp op t x y).run P w = .ok v w := by
  cases x <;> cases y <;> simp only [binV] at h <;> try cases h
  case int.int k a k' b =>
    by_cases h1 : op = .shl
    · subst h1; exact run_shOp (.inl rfl) h
    by_cases h2 : op = .shr
    · subst h2; exact run_shOp (.inr rfl) h
    have h' : (if k = k' then intV k op a b else none) = some v := by
      cases op <;> first | exact h | exact absurd rfl h1 | exact absurd rfl h2
    split at h'
    · rename_i hk
      subst hk
      exact run_intOp ⟨h1, h2⟩ h'
    · cases h'
  case string.string x y => exact run_strOp h
  case bool.bool x y =>
    cases bt with
    | false => cases h
    | true =>
      have hu := hb rfl
      have he : (Op.equal t (.bool x) (.bool y)).run P w = .ok (x == y) w := by
        unfold Op.equal
        rw [show Op.maxDepth = 9999 + 1 from rfl, Op.equalIn, Sem.run_bind, run_underlying hu, Result.andThen_ok]
        rfl
      cases op <;> simp only at h <;> first
        | (injection h with h; subst h; simp only [binOp, Sem.run_bind, he, Result.andThen_ok]; rfl)
        | cases h
theorem run_unV {op : UnOp} {x v : Value} (h : unV op x = some v) : (Op.unary op x).run P w = .ok v w := by
  cases x <;> simp only [unV] at h <;> try cases h
  case int k n => cases op <;> simp at h <;> (subst h; simp [Op.unary, Op.intArith, Op.intBits])
  case bool b => cases op <;> simp at h <;> (subst h; simp [Op.unary])
theorem binV_one {bt : Bool} {op : BinOp} {x y v : Value} (h : binV bt op x y = some v) : v.oneCell' = true := by
  cases x <;> cases y <;> simp only [binV] at h <;> try cases h
  case int.int k a k' b =>
    cases op <;> simp only [shV, intV] at h <;> (repeat' split at h) <;> first
      | (injection h with h; subst h; rfl)
      | cases h
  case string.string x y => cases op <;> simp only [strV] at h <;> first | (injection h with h; subst h; rfl) | cases h
  case bool.bool x y => cases bt <;> cases op <;> first | (injection h with h; subst h; rfl) | cases h
theorem unV_one {op : UnOp} {x v : Value} (h : unV op x = some v) : v.oneCell' = true := by
  cases x <;> cases op <;> simp [unV] at h <;> (subst h; rfl)

theorem relAt_ok {R : Value → World → Prop} {v : Value} (h : (execOp a.eval o).run P w = .ok (.value v) w') (hr : R v w') : relAt P o a w R := by
  unfold relAt; rw [h]; exact hr
theorem relAt_skip {R : Value → World → Prop} (h : (execOp a.eval o).run P w = .ok .skip w') (hr : R undef w') : relAt P o a w R := by
  unfold relAt; rw [h]; exact hr
theorem RV.here {v : Value} {x : AV} (h : RV ψ K S w v x) : RV ψ K (fun b => S b ∨ w.heap.size ≤ b) w v x := h.mono (fun _ h => h) fun _ h => .inl h

/-- operations on numbers, texts, truth values -/
def basic : Value → Bool
  | .int .. => true
  | .string _ => true
  | .bool _ => true
  | _ => false
theorem eqGuard_basic {op : BinOp} {t : TypeId} {x y : Operand} {u v : Value} (hu : basic u = true) : (eqGuard op t x y u v).run P w = .ok () w := by
  unfold eqGuard
  cases u <;> cases hu <;> cases op <;> simp
theorem binV_basic {bt : Bool} {op : BinOp} {u v r : Value} (h : binV bt op u v = some r) : basic u = true := by
  cases u <;> cases v <;> first | rfl | cases h
theorem n_bin {op : BinOp} {t yt : TypeId} {x y : Operand} {u v r : Value} (bt : Bool) (hb : bt = true → P.underlying t = some .bool) (ho : o.op = .binOp op t x y yt) (hx : st.eval x = .fz (.atom u)) (hy : st.eval y = .fz (.atom v)) (h : binV bt op u v = some r) : NStep P o st (.fz (.atom r)) := by
  intro ψ S a w ht _
  have h1 := Sim.eval_tmps ht x
  have h2 := Sim.eval_tmps ht y
  rw [hx] at h1
  rw [hy] at h2
  refine relAt_ok (w' := w) (v := r) ?_ ⟨grow_refl _, .fz (.atom (binV_one h))⟩
  simp [execOp, ho, h1.atom, h2.atom, run_binV hb h, eqGuard_basic (binV_basic h)]
theorem n_un {op : UnOp} {t : TypeId} {x : Operand} {u r : Value} (ho : o.op = .unOp op t x) (hx : st.eval x = .fz (.atom u)) (h : unV op u = some r) : NStep P o st (.fz (.atom r)) := by
  intro ψ S a w ht _
  have h1 := Sim.eval_tmps ht x
  rw [hx] at h1
  refine relAt_ok (w' := w) (v := r) ?_ ⟨grow_refl _, .fz (.atom (unV_one h))⟩
  simp [execOp, ho, h1.atom, run_unV h]
theorem n_move {x : Operand} (ho : o.op = .move x ∨ o.op = .assign x) : NStep P o st (st.eval x) := by
  intro ψ S a w ht _
  refine relAt_ok (w' := w) (v := a.eval x) ?_ ⟨grow_refl _, (Sim.eval_tmps ht x).here⟩
  rcases ho with ho | ho <;> simp [execOp, ho]
theorem n_pick {c x y : Operand} {b : Bool} (ho : o.op = .pick c x y) (hc : st.eval c = .fz (.atom (.bool b))) : NStep P o st (bif b then st.eval x else st.eval y) := by
  intro ψ S a w ht _
  have h1 := Sim.eval_tmps ht c
  rw [hc] at h1
  refine relAt_ok (w' := w) (v := bif b then a.eval x else a.eval y) ?_ ⟨grow_refl _, ?_⟩
  · cases b <;> simp [execOp, ho, h1.atom, asBool]
  · cases b
    · exact (Sim.eval_tmps ht y).here
    · exact (Sim.eval_tmps ht x).here
end
end Go.Proofs.Ytaeicmnimjfbaaa
