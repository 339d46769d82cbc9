/- Operations on slices and texts that are only read. -/
import Derived.Test.YtaeicmnimjfbaaaOpb
set_option linter.unusedVariables false
set_option linter.unusedSimpArgs false
namespace Go.Proofs.Ytaeicmnimjfbaaa
open Go Go.RowKit

def partsF (size : Nat) : Nat → List (Nat × AV) → Option (List FV)
  | _, [] => some []
  | i, (j, .fz x) :: l => bif Nat.beq j i && (Nat.beq x.cells.length size && x.cells.all FV.single) then (partsF size (i + 1) l).map (x :: ·) else none
  | _, _ :: _ => none
/-- a slice that is only read -/
def listOf : AV → Option (List FV)
  | .fz (.lst _ _ xs) => some xs
  | .lim _ _ xs => some xs
  | _ => none
def lenOf : AV → Option Nat
  | .fz (.lst _ n _) => some n
  | .lim _ n _ => some n
  | .fz (.atom (.slice none 0 0)) => some 0
  | _ => none
def nilV : Value := .slice none 0 0

section
variable {P : Program} {w w' : World} {S S' : Nat → Prop} {ψ : Env} {K : Nat → Prop} {T : List (TypeId × TD)} {o : Oper} {a : Act} {st : St} {t : TypeId} {d : TD}

theorem RF.lst_inv {v : Value} {size n : Nat} {xs : List FV} (h : RF S w v (.lst size n xs)) : ∃ (A : Option Addr) (cap : Nat) (css : Nat → List Value), v = .slice A n cap ∧ n = xs.length ∧ n ≤ cap ∧ cap ≤ 9223372036854775807 ∧ 0 < size ∧
    (∀ (i : Nat) (x : FV), xs[i]? = some x → ∃ b o, A = some ⟨b, o, none⟩ ∧ S b ∧ At w b (o + i * size) (css i)) ∧
    (∀ (i : Nat) (x : FV), xs[i]? = some x → (css i).length = size ∧ x.cells.length = size ∧ ∀ y ∈ x.cells, y.single = true) ∧
    (∀ (i : Nat) (x : FV) (j : Nat) (v : Value) (y : FV), xs[i]? = some x → (css i)[j]? = some v → x.cells[j]? = some y → RF S w v y) := by
  cases h with
  | lst css hn hc hm hs ha hl hr => exact ⟨_, _, css, rfl, hn, hc, hm, hs, ha, hl, hr⟩
theorem listOf_ok {v : Value} {x : AV} {xs : List FV} (h : RV ψ K S w v x) (hx : listOf x = some xs) : ∃ A cap size n, n = xs.length ∧ v = .slice A n cap ∧ RF S w v (.lst size n xs) := by
  cases x with
  | fz x =>
    cases x with
    | lst size n ys =>
      simp only [listOf, Option.some.injEq] at hx
      subst hx
      have h := h.inv
      have h' := h
      cases h with
      | lst css hn => exact ⟨_, _, _, n, hn, rfl, h'⟩
    | _ => cases hx
  | lim size n ys =>
    simp only [listOf, Option.some.injEq] at hx
    subst hx
    cases h with
    | lim h =>
      have h' := h
      cases h with
      | lst css hn => exact ⟨_, _, _, n, hn, rfl, h'⟩
  | _ => cases hx

theorem lenOf_ok {v : Value} {x : AV} {n : Nat} (h : RV ψ K S w v x) (hx : lenOf x = some n) : ∃ A cap, v = .slice A n cap := by
  unfold lenOf at hx
  split at hx
  · injection hx with hx
    subst hx
    have h := h.inv
    cases h with
    | lst css hn => exact ⟨_, _, rfl⟩
  · injection hx with hx
    subst hx
    cases h with
    | lim h => exact ⟨_, _, rfl⟩
  · injection hx with hx
    subst hx
    rw [h.atom]; exact ⟨_, _, rfl⟩
  · cases hx
theorem n_len_list {x : Operand} {n : Nat} {e : TypeId} (ho : o.op = .call { callee := .builtin .len, args := #[x], argTypes := #[t] }) (hd : TdOk P t d) (hk : d.kind = .slice e) (hx : lenOf (st.eval x) = some n) : NStep P o st (.fz (.atom (.int .i64 n))) := by
  intro ψ S a w ht hO
  obtain ⟨A, cap, hv⟩ := lenOf_ok (Sim.eval_tmps ht x) hx
  refine relAt_ok (w' := w) (v := .int .i64 n) ?_ ⟨grow_refl _, .fz (.atom rfl)⟩
  simp [execOp, ho, resolve, invoke, builtin, Builtin.len_, run_underlying (hd.slice hk), hv, goInt]
theorem n_len_str {x : Operand} {s : ByteArray} (ho : o.op = .call { callee := .builtin .len, args := #[x], argTypes := #[t] }) (hd : TdOk P t d) (hk : d.kind = .str) (hx : st.eval x = .fz (.atom (.string s))) : NStep P o st (.fz (.atom (.int .i64 s.size))) := by
  intro ψ S a w ht hO
  have h1 := Sim.eval_tmps ht x
  rw [hx] at h1
  refine relAt_ok (w' := w) (v := .int .i64 s.size) ?_ ⟨grow_refl _, .fz (.atom rfl)⟩
  simp [execOp, ho, resolve, invoke, builtin, Builtin.len_, run_underlying (hd.str hk), h1.atom, goInt]

/-- element i -/
theorem n_index {x y : Operand} {xs : List FV} {e : TypeId} {de : TD} {k : IntKind} {i : Int} {z : FV} {cs : List FV} (ho : o.op = .indexAddr t x y) (hd : TdOk P t d) (hk : d.kind = .slice e) (hde : TdOk P e de) (hx : listOf (st.eval x) = some xs)
    (hsz : ∀ z ∈ xs, z.cells.length = de.size) (hy : st.eval y = .fz (.atom (.int k i))) (h0 : 0 ≤ i) (hi : xs[i.toNat]? = some z) (hc : z.cells = cs) : NStep P o st (.fz (.fp cs)) := by
  subst hc
  intro ψ S a w ht hO
  obtain ⟨A, cap, size, n, hnx, hv, hR⟩ := listOf_ok (Sim.eval_tmps ht x) hx
  have h1 := Sim.eval_tmps ht y
  rw [hy] at h1
  have hlt : i.toNat < xs.length := (List.getElem?_eq_some_iff.1 hi).1
  obtain ⟨A', cap', css, hv', hnn, hc, hm, hs, ha, hl, hr⟩ := hR.lst_inv
  obtain ⟨b, off, rfl, hS, hat⟩ := ha _ _ hi
  obtain ⟨l1, l2, l3⟩ := hl _ _ hi
  have hse : size = de.size := by rw [← hsz z (List.mem_of_getElem? hi), l2]
  subst hse
  refine relAt_ok (w' := w) (v := .pointer (some ⟨b, off + i.toNat * de.size, none⟩)) ?_ ⟨grow_refl _, (RV.fz (.fp (css i.toNat) hS hat (by rw [l1, l2]) (by omega) l3 fun j v y hv hy => hr _ _ j v y hi hv hy)).here⟩
  have hlt' : i < (n : Int) := by omega
  simp [execOp, ho, Instr.indexAt, h1.atom, asIntOf, run_underlying (hd.slice hk), hv', h0, hlt', hde.size, addr_add]
/-- byte i -/
theorem n_byte {x y : Operand} {s : ByteArray} {k : IntKind} {i : Int} {c : UInt8} (ho : o.op = .index t x y) (hd : TdOk P t d) (hk : d.kind = .str) (hx : st.eval x = .fz (.atom (.string s))) (hy : st.eval y = .fz (.atom (.int k i))) (h0 : 0 ≤ i) (hi : s[i.toNat]? = some c) :
    NStep P o st (.fz (.atom (.int .u8 c.toNat))) := by
  intro ψ S a w ht hO
  have h1 := Sim.eval_tmps ht x
  rw [hx] at h1
  have h2 := Sim.eval_tmps ht y
  rw [hy] at h2
  refine relAt_ok (w' := w) (v := .int .u8 c.toNat) ?_ ⟨grow_refl _, .fz (.atom rfl)⟩
  simp [execOp, ho, Instr.index, h1.atom, h2.atom, asIntOf, run_underlying (hd.str hk), h0, hi]
/-- two texts, one behind the other -/
theorem n_concat {x y : Operand} {yt : TypeId} {s u : ByteArray} (ho : o.op = .binOp .add t x y yt) (hx : st.eval x = .fz (.atom (.string s))) (hy : st.eval y = .fz (.atom (.string u))) (hl : s.size + u.size ≤ 9223372036854775807) :
    NStep P o st (.fz (.atom (.string (s ++ u)))) := by
  intro ψ S a w ht hO
  have h1 := Sim.eval_tmps ht x
  rw [hx] at h1
  have h2 := Sim.eval_tmps ht y
  rw [hy] at h2
  refine relAt_ok (w' := w) (v := .string (s ++ u)) ?_ ⟨grow_refl _, .fz (.atom rfl)⟩
  have hm : IntKind.i64.max = 9223372036854775807 := by decide
  have : ¬ (((s.size + u.size : Nat) : Int) > IntKind.i64.max) := by rw [hm]; omega
  have hb : (binOp .add t (.string s) (.string u)).run P w = .ok (.string (s ++ u)) w := by
    show (Op.stringOp .add s u).run P w = _
    unfold Op.stringOp
    simp only [if_neg this]
    rfl
  simp [execOp, ho, h1.atom, h2.atom, hb, eqGuard_basic (P := P) (w := w) (op := .add) (t := t) (x := x) (y := y) (u := .string s) (v := .string u) rfl]
/-- numbers of other kinds -/
theorem n_conv {sr : TypeId} {x : Operand} {k k' : IntKind} {n : Int} {ds : TD} (ho : o.op = .convert sr t x) (hs : ∃ e, P.underlying sr = some e) (hd : P.underlying t = some (.int k)) (hx : st.eval x = .fz (.atom (.int k' n))) : NStep P o st (.fz (.atom (.int k (k.wrap n)))) := by
  intro ψ S a w ht hO
  obtain ⟨e, he⟩ := hs
  have h1 := Sim.eval_tmps ht x
  rw [hx] at h1
  refine relAt_ok (w' := w) (v := .int k (k.wrap n)) ?_ ⟨grow_refl _, .fz (.atom rfl)⟩
  cases e <;> simp [execOp, ho, h1.atom, convert, run_underlying he, run_underlying hd, Conv.intToInt]
theorem n_func {f : FuncId} {cap : Array Operand} (ho : o.op = .makeFunc (.func f) #[] cap) : NStep P o st (.fn f (cap.toList.map st.eval)) := by
  intro ψ S a w ht hO
  refine relAt_ok (w' := w) (v := .func (.func f) #[] (cap.map a.eval)) ?_ ⟨grow_refl _, (RV.fn (by simp) fun i v x hv hx => ?_).here⟩
  · simp [execOp, ho, Instr.makeFunc]
  · simp only [Array.getElem?_map, Option.map_eq_some_iff, List.getElem?_map, Array.getElem?_toList] at hv hx
    obtain ⟨y, hy, rfl⟩ := hv
    obtain ⟨z, hz, rfl⟩ := hx
    rw [hy] at hz
    injection hz with hz
    subst hz
    exact Sim.eval_tmps ht y

/-- a literal -/
theorem partsF_ok {size : Nat} : ∀ {i : Nat} {l : List (Nat × AV)} {xs : List FV}, partsF size i l = some xs → l = (xs.zipIdx i).map (fun p => (p.2, AV.fz p.1)) ∧ ∀ x ∈ xs, x.cells.length = size ∧ ∀ y ∈ x.cells, y.single = true
  | i, [], xs, h => by simp only [partsF, Option.some.injEq] at h; subst h; exact ⟨rfl, fun x hx => by cases hx⟩
  | i, (j, x) :: l, xs, h => by
    cases x with
    | fz x =>
      simp only [partsF] at h
      cases hb : (Nat.beq j i && (Nat.beq x.cells.length size && x.cells.all FV.single)) with
      | false => rw [hb] at h; cases h
      | true =>
        rw [hb] at h
        simp only [cond_true, Option.map_eq_some_iff] at h
        obtain ⟨ys, hys, rfl⟩ := h
        simp only [Bool.and_eq_true] at hb
        obtain ⟨hb1, hb2, hb3⟩ := hb
        obtain rfl := Nat.eq_of_beq_eq_true hb1
        obtain ⟨h1, h2⟩ := partsF_ok hys
        refine ⟨by rw [h1]; rfl, fun y hy => ?_⟩
        rcases List.mem_cons.1 hy with rfl | hy
        · exact ⟨Nat.eq_of_beq_eq_true hb2, List.all_eq_true.1 hb3⟩
        · exact h2 y hy
    | _ => cases h
theorem n_lit {n : Nat} {parts : Array (Nat × Operand)} {e : TypeId} {de : TD} {xs : List FV} (ho : o.op = .buildSlice t n parts) (hd : TdOk P t d) (hk : d.kind = .slice e) (hde : TdOk P e de) (hsz : 0 < de.size) (hn : xs.length = n) (hb : n * de.size ≤ 16777216)
    (hp : partsF de.size 0 (evalParts st parts) = some xs) : NStep P o st (.lim de.size n xs) := by
  subst hn
  intro ψ S a w ht hO
  obtain ⟨e1, e2⟩ := evalParts_ok ht parts
  obtain ⟨p1, p2⟩ := partsF_ok hp
  -- the parts' values
  obtain ⟨vs, hvs⟩ : ∃ vs : List Value, vs = parts.toList.map (fun p => a.eval p.2) := ⟨_, rfl⟩
  have hlen : parts.toList.length = xs.length := by
    have : (evalParts st parts).length = xs.length := by rw [p1]; simp
    simpa [evalParts] using this
  have hvl : vs.length = xs.length := by rw [hvs]; simp at hlen ⊢; exact hlen
  have helt : ∀ (i : Nat) (x : FV), xs[i]? = some x → ∃ v p, vs[i]? = some v ∧ parts.toList[i]? = some p ∧ p.1 = i ∧ RF S w v x := fun i x hx => by
    have hi : i < parts.toList.length := by rw [hlen]; exact (List.getElem?_eq_some_iff.1 hx).1
    have hq : (evalParts st parts)[i]? = some (i, .fz x) := by rw [p1]; simp [hx]
    have hpi : parts.toList[i]? = some parts.toList[i] := List.getElem?_eq_getElem hi
    have hp' : (parts.map fun (i, x) => (i, a.eval x)).toList[i]? = some (parts.toList[i].1, a.eval parts.toList[i].2) := by simp [hpi]
    obtain ⟨r1, r2⟩ := e2 i _ _ hp' hq
    exact ⟨a.eval parts.toList[i].2, parts.toList[i], by rw [hvs, List.getElem?_map, hpi]; rfl, hpi, r1, r2.inv⟩
  have hpz : (parts.map fun (i, x) => (i, a.eval x)).toList = (vs.zipIdx 0).map (fun x => (x.2, x.1)) := by
    apply List.ext_getElem?
    intro i
    by_cases hi : i < xs.length
    · obtain ⟨v, p, h1, h2, h3, _⟩ := helt i xs[i] (List.getElem?_eq_getElem hi)
      have : v = a.eval p.2 := by rw [hvs, List.getElem?_map, h2] at h1; simpa using h1.symm
      simp only [Array.toList_map, List.getElem?_map, List.getElem?_zipIdx, h1, h2, Option.map_some, Nat.zero_add]
      rw [this, h3]
    · rw [List.getElem?_eq_none (by simp at hlen ⊢; omega), List.getElem?_eq_none (by simp [hvl]; omega)]
  have hcells : ∀ v ∈ vs, v.cells.size = de.size := fun v hv => by
    obtain ⟨i, hi, rfl⟩ := List.mem_iff_getElem.1 hv
    obtain ⟨v, p, h1, _, _, h4⟩ := helt i xs[i] (List.getElem?_eq_getElem (by omega))
    rw [List.getElem?_eq_getElem hi] at h1
    injection h1 with h1
    rw [h1, (h4.cells (p2 _ (List.getElem_mem _)).2).1, (p2 _ (List.getElem_mem _)).1]
  obtain ⟨z, hz1, hz2⟩ := hde.zero (P := P) (w := w)
  obtain ⟨cells, hcl⟩ : ∃ cells : Array Value, cells = (vs.flatMap fun v => v.cells.toList).toArray := ⟨_, rfl⟩
  have hrow : (Instr.buildSlice t xs.length (parts.map fun (i, x) => (i, a.eval x))).run P w = .ok (.slice (some ⟨w.heap.size, 0, none⟩) xs.length xs.length) (w.alloc (.cells cells e)) := by
    have hb' : ¬ xs.length * de.size > 2 ^ 24 := by omega
    have hfill : ∀ c0 : Array Value, xs.length * de.size = c0.size → Instr.fill (fun i => some (i * de.size, de.size)) c0 (parts.map fun (i, x) => (i, a.eval x)).toList = some cells := fun c0 hc0 => by
      rw [hpz, Great.fill_whole hsz vs c0 hcells (by rw [hvl]; exact hc0), hcl]
    unfold Instr.buildSlice
    rw [Sem.run_bind, run_underlying (hd.slice hk), Result.andThen_ok]
    simp only [Sem.run_bind, hde.size, Result.andThen_ok, if_neg hb']
    by_cases h0 : xs.length * de.size = 0
    · simp only [if_pos h0, Sem.run_bind, Sem.run_pure, Result.andThen_ok]
      rw [hfill]
      · rfl
      · simp
    · simp only [if_neg h0, Sem.run_bind, hz1, Result.andThen_ok, Sem.run_pure]
      rw [hfill]
      · rfl
      · simp
  refine relAt_ok (w' := w.alloc (.cells cells e)) ?_ ⟨grow_alloc _ _, .lim (.lst (fun i => (vs.getD i undef).cells.toList) rfl (Nat.le_refl _) ?_ hsz (fun i x hx => ⟨w.heap.size, 0, rfl, .inr (Nat.le_refl _), fun j u hu => ?_⟩) (fun i x hx => ?_) fun i x j v y hx hv hy => ?_)⟩
  · have hrow' := hrow
    simp only [execOp, ho, Sem.run_bind]
    rw [show (parts.map fun (i, x) => (i, a.eval x)) = parts.map (fun x => (x.1, a.eval x.2)) from rfl] at hrow'
    simp [hrow']
  · have : xs.length * 1 ≤ xs.length * de.size := Nat.mul_le_mul_left _ hsz
    omega
  · have hi := (List.getElem?_eq_some_iff.1 hx).1
    have hgd : vs.getD i undef = vs[i] := by simp [List.getD, List.getElem?_eq_getElem (show i < vs.length by omega)]
    rw [hgd] at hu
    have hj : j < de.size := by
      have := (List.getElem?_eq_some_iff.1 hu).1
      rw [Array.length_toList, hcells _ (List.getElem_mem _)] at this
      exact this
    have hfl := Great.flat_get hsz vs hcells (i * de.size + j)
    rw [show (i * de.size + j) / de.size = i by rw [Nat.mul_comm, Nat.mul_add_div hsz, Nat.div_eq_of_lt hj]; omega, show (i * de.size + j) % de.size = j by rw [Nat.mul_comm, Nat.mul_add_mod, Nat.mod_eq_of_lt hj]] at hfl
    rw [List.getElem?_eq_getElem (show i < vs.length by omega)] at hfl
    simp only [Option.bind_some] at hfl
    have hh : (w.alloc (.cells cells e)).heap[w.heap.size]? = some (.cells cells e (0, 0)) := heap_alloc_new w _
    simp only [World.cell?, hh, Nat.zero_add]
    simp only [Option.isSome_none, Bool.false_eq_true, if_false]
    rw [hcl]
    simp only [List.getElem?_toArray]
    rw [hfl]
    simpa using hu
  · have hi := (List.getElem?_eq_some_iff.1 hx).1
    have hgd : vs.getD i undef = vs[i] := by simp [List.getD, List.getElem?_eq_getElem (show i < vs.length by omega)]
    have := p2 x (List.mem_of_getElem? hx)
    rw [hgd]
    exact ⟨by rw [Array.length_toList, hcells _ (List.getElem_mem _)], this.1, this.2⟩
  · obtain ⟨u, p, h1, _, _, h4⟩ := helt i x hx
    have hgd : vs.getD i undef = u := by simp [List.getD, h1]
    simp only [hgd] at hv
    have := (h4.cells (p2 x (List.mem_of_getElem? hx)).2).2.1 j v y (by simpa using hv) hy
    exact (this.keep (Same.of_grow (grow_alloc _ _))).mono fun _ h => .inl h
end
end Go.Proofs.Ytaeicmnimjfbaaa
