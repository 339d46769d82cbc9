/- Operations that read memory. -/
import Derived.Test.YtaeicmnimjfbaaaOps
set_option linter.unusedVariables false
set_option linter.unusedSimpArgs false
namespace Go.Proofs.Ytaeicmnimjfbaaa
open Go Go.RowKit

def allFz : List AV → Option (List FV)
  | [] => some []
  | .fz x :: l => (allFz l).map (x :: ·)
  | _ :: _ => none
def aggA (xs : List AV) : AV := match allFz xs with
  | some ys => .fz (.agg ys)
  | none => .agg xs
def tupA (xs : List AV) : AV := match allFz xs with
  | some ys => .fz (.tup ys)
  | none => .tup xs
def loadX (d : TD) (xs : List AV) : Option AV := bif d.kind.agg then (bif Nat.ble d.size xs.length then some (aggA (xs.take d.size)) else none) else xs.head?
/-- the cells behind an address -/
def cellsAt (st : St) : AV → Option (List AV)
  | .fz (.fp cs) => some (cs.map .fz)
  | .ref id n off => match lookO st.heap id with
    | some (.box _ cells) => bif Nat.beq n 0 then some (cells.drop off) else none
    | _ => none
  | _ => none

section
variable {P : Program} {w w' : World} {S S' : Nat → Prop} {ψ : Env} {K : Nat → Prop} {T : List (TypeId × TD)} {o : Oper} {a : Act} {st : St} {t : TypeId} {d : TD}

theorem TdOk.size (h : TdOk P t d) : (sizeOf t).run P w = .ok d.size w := by
  obtain ⟨⟨i, z, h1, h2, _⟩, _⟩ := h
  simp [sizeOf, typeInfo, h1, h2]
theorem TdOk.info (h : TdOk P t d) : (P.info? t).map (·.size) = some d.size := by
  obtain ⟨⟨i, z, h1, h2, _⟩, _⟩ := h
  simp [h1, h2]
theorem TdOk.isAgg (h : TdOk P t d) : (isAgg t).run P w = .ok d.kind.agg w := by
  obtain ⟨_, e, h1, h2⟩ := h
  unfold Go.isAgg
  rw [Sem.run_bind, run_underlying h1]
  cases e <;> cases hk : d.kind <;> simp [kindOk, hk, TK.agg] at h2 ⊢
theorem TdOk.zero (h : TdOk P t d) : ∃ z, (zeroValue t).run P w = .ok z w ∧ z.cells.toList = d.zero := by
  obtain ⟨⟨i, z, h1, h2, h3, h4, h5⟩, _⟩ := h
  exact ⟨z, by simp [zeroValue, typeInfo, h1, h4], h5⟩
theorem TdOk.strct {fs : List (TypeId × Nat)} (h : TdOk P t d) (hk : d.kind = .st fs) : ∃ gs : Array Field, (∀ w, (underlying t).run P w = .ok (.struct gs) w) ∧ gs.toList.map (fun f => (f.type, f.offset)) = fs := by
  obtain ⟨_, e, h1, h2⟩ := h
  rw [hk] at h2
  cases e <;> simp [kindOk] at h2
  exact ⟨_, fun w => run_underlying h1 w, h2⟩
theorem TdOk.arr {n e : Nat} (h : TdOk P t d) (hk : d.kind = .arr n e) : P.underlying t = some (.array n e) := by
  obtain ⟨_, e', h1, h2⟩ := h
  rw [hk] at h2
  cases e' <;> simp [kindOk] at h2
  rw [h1, h2.1, h2.2]
theorem TdOk.slice {e : Nat} (h : TdOk P t d) (hk : d.kind = .slice e) : P.underlying t = some (.slice e) := by
  obtain ⟨_, e', h1, h2⟩ := h
  rw [hk] at h2
  cases e' <;> simp [kindOk] at h2
  rw [h1, h2]
theorem TdOk.str (h : TdOk P t d) (hk : d.kind = .str) : P.underlying t = some .string := by
  obtain ⟨_, e', h1, h2⟩ := h
  rw [hk] at h2
  cases e' <;> simp [kindOk] at h2
  rw [h1]

theorem allFz_some : ∀ {xs : List AV} {ys : List FV}, allFz xs = some ys → xs = ys.map .fz
  | [], ys, h => by simp [allFz] at h; subst h; rfl
  | .fz x :: l, ys, h => by
    simp only [allFz, Option.map_eq_some_iff] at h
    obtain ⟨zs, hz, rfl⟩ := h
    rw [allFz_some hz]; rfl
theorem RV.aggA {cs : Array Value} {xs : List AV} (h : cs.size = xs.length) (h1 : ∀ x ∈ xs, x.single = true) (hr : ∀ (i : Nat) (v : Value) (x : AV), cs[i]? = some v → xs[i]? = some x → RV ψ K S w v x) : RV ψ K S w (.agg cs) (aggA xs) := by
  unfold Go.Proofs.Ytaeicmnimjfbaaa.aggA
  cases hy : allFz xs with
  | none => exact .agg h h1 hr
  | some ys =>
    have := allFz_some hy
    subst this
    exact .fz (.agg (by simpa using h) (fun x hx => h1 (.fz x) (by simp [hx])) fun i v x hv hx => (hr i v (.fz x) hv (by simp [hx])).inv)
theorem RV.tupA {cs : Array Value} {xs : List AV} (h : cs.size = xs.length) (hr : ∀ (i : Nat) (v : Value) (x : AV), cs[i]? = some v → xs[i]? = some x → RV ψ K S w v x) : RV ψ K S w (.tuple cs) (tupA xs) := by
  unfold Go.Proofs.Ytaeicmnimjfbaaa.tupA
  cases hy : allFz xs with
  | none => exact .tup h hr
  | some ys =>
    have := allFz_some hy
    subst this
    exact .fz (.tup (by simpa using h) fun i v x hv hx => (hr i v (.fz x) hv (by simp [hx])).inv)

/-- these cells lie there -/
def Cells (ψ : Env) (K : Nat → Prop) (S : Nat → Prop) (w : World) (b o : Nat) (xs : List AV) : Prop :=
  ∃ cs : List Value, At w b o cs ∧ cs.length = xs.length ∧ (∀ x ∈ xs, x.single = true) ∧ ∀ (i : Nat) (v : Value) (x : AV), cs[i]? = some v → xs[i]? = some x → RV ψ K S w v x
theorem cellsAt_ok {v : Value} {x : AV} {xs : List AV} (hv : RV ψ (· ∈ st.ids) S w v x) (hO : ∀ id o, lookO st.heap id = some o → ObR ψ (· ∈ st.ids) S w id o) (h : cellsAt st x = some xs) :
    ∃ b o, v = .pointer (some ⟨b, o, none⟩) ∧ Cells ψ (· ∈ st.ids) S w b o xs := by
  cases x with
  | fz x =>
    cases x with
    | fp cs =>
      simp only [cellsAt, Option.some.injEq] at h
      subst h
      cases hv with
      | fz hv =>
        cases hv with
        | @fp b o _ vs hS ha hl h0 h1 hr =>
          refine ⟨b, o, rfl, vs, ha, by simpa using hl, fun x hx => ?_, fun i v x hv hx => ?_⟩
          · simp only [List.mem_map] at hx
            obtain ⟨y, hy, rfl⟩ := hx
            exact h1 y hy
          · simp only [List.getElem?_map, Option.map_eq_some_iff] at hx
            obtain ⟨y, hy, rfl⟩ := hx
            exact .fz (hr i v y hv hy)
    | _ => cases h
  | ref id n off =>
    simp only [cellsAt] at h
    split at h
    · rename_i e cells ho
      cases hn : Nat.beq n 0 with
      | false => rw [hn] at h; cases h
      | true =>
        rw [hn] at h
        simp only [cond_true, Option.some.injEq] at h
        subst h
        obtain rfl := Nat.eq_of_beq_eq_true hn
        obtain ⟨h0, b, cs, h1, h2, h3, h4, h5⟩ := hO id _ ho
        cases hv with
        | ref hK hn' h1' hv' =>
          obtain ⟨b', hb', rfl⟩ := hv' h0.symm
          rw [h1] at hb'
          simp only [blkOf, Option.some.injEq] at hb'
          subst hb'
          refine ⟨b, off, rfl, cs.toList.drop off, fun j u hu => ?_, by simp [h3], fun x hx => h4 x (List.mem_of_mem_drop hx), fun i v x hv hx => ?_⟩
          · rw [List.getElem?_drop] at hu
            simp only [World.cell?, h2]
            simpa using hu
          · rw [List.getElem?_drop] at hv hx
            exact h5 _ v x (by simpa using hv) hx
    · cases h
  | _ => cases h
theorem Cells.mono {b o : Nat} {xs : List AV} (h : Cells ψ K S w b o xs) (hS : ∀ b, S b → S' b) : Cells ψ K S' w b o xs :=
  let ⟨cs, h1, h2, h3, h4⟩ := h; ⟨cs, h1, h2, h3, fun i v x hv hx => (h4 i v x hv hx).mono (fun _ h => h) hS⟩

theorem n_load {x : Operand} {xs : List AV} {c : AV} (ho : o.op = .load t x) (hd : TdOk P t d) (hx : cellsAt st (st.eval x) = some xs) (hc : loadX d xs = some c) : NStep P o st c := by
  intro ψ S a w ht hO
  obtain ⟨b, off, hv, cs, hat, hl, h1, hr⟩ := cellsAt_ok (Sim.eval_tmps ht x) hO hx
  unfold loadX at hc
  cases hk : d.kind.agg with
  | false =>
    rw [hk] at hc
    simp only [cond_false] at hc
    cases xs with
    | nil => cases hc
    | cons y ys =>
      simp only [List.head?_cons, Option.some.injEq] at hc
      subst hc
      have hc0 : cs[0]? = some (cs[0]'(by simp at hl; omega)) := List.getElem?_eq_getElem _
      have hcell : w.cell? ⟨b, off, none⟩ = some (cs[0]'(by simp at hl; omega)) := by simpa using hat 0 _ hc0
      refine relAt_ok (w' := w) (v := cs[0]'(by simp at hl; omega)) ?_ ⟨grow_refl _, (hr 0 _ y hc0 rfl).here⟩
      simp [execOp, ho, hv, Instr.loadAt, Instr.sureAddr, loadVar, hd.isAgg, hk, hcell]
  | true =>
    rw [hk] at hc
    simp only [cond_true] at hc
    cases hle : Nat.ble d.size xs.length with
    | false => rw [hle] at hc; cases hc
    | true =>
      rw [hle] at hc
      simp only [cond_true, Option.some.injEq] at hc
      subst hc
      have hle' := Nat.le_of_ble_eq_true hle
      have hlen : (cs.take d.size).length = d.size := by rw [List.length_take]; omega
      have hload := run_loadCells_list (P := P) w ⟨b, off, none⟩ (cs.take d.size) fun j v hj => by
        rw [List.getElem?_take] at hj
        split at hj
        · have := hat j v hj
          simp only [Addr.add]
          split
          · rename_i h0; subst h0; simpa using this
          · exact this
        · cases hj
      rw [hlen] at hload
      refine relAt_ok (w' := w) (v := .agg (cs.take d.size).toArray) ?_ ⟨grow_refl _, (RV.aggA (by simp [hl]) (fun x hx => h1 x (List.mem_of_mem_take hx)) fun i v x hv hx => ?_).here⟩
      · simp [execOp, ho, hv, Instr.loadAt, Instr.sureAddr, loadVar, hd.isAgg, hk, hd.size, hload]
      · simp only [List.getElem?_toArray] at hv
        rw [List.getElem?_take] at hv hx
        split at hv
        · rename_i hi; rw [if_pos hi] at hx; exact hr i v x hv hx
        · cases hv

/-- a part of a variable -/
def fieldX (st : St) (off : Nat) (x : AV) : Option AV := match x with
  | .fz (.fp cs) => match cs.drop off with
    | [] => none
    | y :: ys => some (.fz (.fp (y :: ys)))
  | .ref id n o => match lookO st.heap id with
    | some (.box _ cells) => bif Nat.beq n 0 then some (.ref id n (o + off)) else none
    | _ => none
  | _ => none
theorem addr_add (b o n : Nat) : (⟨b, o, none⟩ : Addr).add n = ⟨b, o + n, none⟩ := by
  unfold Addr.add; split
  · rename_i h; subst h; rfl
  · rfl
theorem fieldX_ok {off : Nat} {v : Value} {x c : AV} (hv : RV ψ (· ∈ st.ids) S w v x) (hO : ∀ id o, lookO st.heap id = some o → ObR ψ (· ∈ st.ids) S w id o) (h : fieldX st off x = some c) :
    ∃ b o, v = .pointer (some ⟨b, o, none⟩) ∧ RV ψ (· ∈ st.ids) S w (.pointer (some ⟨b, o + off, none⟩)) c := by
  cases x with
  | fz x =>
    cases x with
    | fp cs =>
      simp only [fieldX] at h
      cases hv with
      | fz hv =>
        cases hv with
        | @fp b o _ vs hS ha hl h0 h1 hr =>
          split at h
          · cases h
          · rename_i y ys hd
            injection h with h
            subst h
            refine ⟨b, o, rfl, .fz ?_⟩
            rw [← hd]
            have hlen : off < cs.length := by
              rcases Nat.lt_or_ge off cs.length with h' | h'
              · exact h'
              · rw [List.drop_eq_nil_of_le h'] at hd; cases hd
            refine .fp (vs.drop off) hS (fun j u hu => ?_) (by simp [hl]) (by rw [List.length_drop]; omega) (fun x hx => h1 x (List.mem_of_mem_drop hx)) fun i v x hv hx => ?_
            · rw [List.getElem?_drop] at hu
              have := ha _ u hu
              rwa [← Nat.add_assoc] at this
            · rw [List.getElem?_drop] at hv hx
              exact hr _ v x hv hx
    | _ => cases h
  | ref id n off' =>
    simp only [fieldX] at h
    split at h
    · rename_i e cells ho
      cases hn : Nat.beq n 0 with
      | false => rw [hn] at h; cases h
      | true =>
        rw [hn] at h
        simp only [cond_true, Option.some.injEq] at h
        subst h
        obtain rfl := Nat.eq_of_beq_eq_true hn
        obtain ⟨h0, b, cs, h1, h2, h3, h4, h5⟩ := hO id _ ho
        cases hv with
        | ref hK hn' h1' hv' =>
          obtain ⟨b', hb', rfl⟩ := hv' h0.symm
          exact ⟨b', off', rfl, .ref hK hn' rfl fun _ => ⟨b', hb', rfl⟩⟩
    · cases h
  | _ => cases h
theorem n_field {s : TypeId} {x : Operand} {f : Nat} {fs : List (TypeId × Nat)} {ft : TypeId} {off : Nat} {df : TD} {c : AV} (ho : o.op = .fieldAddr s x f) (hd : TdOk P s d) (hk : d.kind = .st fs) (hf : fs[f]? = some (ft, off)) (hft : TdOk P ft df) (hz : df.size ≠ 0)
    (hc : fieldX st off (st.eval x) = some c) : NStep P o st c := by
  intro ψ S a w ht hO
  obtain ⟨b, off', hv, hr⟩ := fieldX_ok (Sim.eval_tmps ht x) hO hc
  obtain ⟨gs, hu, hgs⟩ := hd.strct hk
  have hg : ∃ g : Field, gs[f]? = some g ∧ g.type = ft ∧ g.offset = off := by
    rw [← hgs, List.getElem?_map, Option.map_eq_some_iff] at hf
    obtain ⟨g, hg, he⟩ := hf
    simp only [Prod.mk.injEq] at he
    exact ⟨g, by simpa using hg, he.1, he.2⟩
  obtain ⟨g, hg, rfl, rfl⟩ := hg
  refine relAt_ok (w' := w) ?_ ⟨grow_refl _, hr.here⟩
  simp [execOp, ho, hv, Instr.fieldAt, hu, hg, Instr.sureAddr, fieldPlace, hft.size, hz, addr_add]

theorem n_extract {x : Operand} {i : Nat} {c : AV} (ho : o.op = .extract x i) (hc : (match st.eval x with | .fz (.tup xs) => (xs[i]?).map .fz | .tup xs => xs[i]? | _ => none) = some c) : NStep P o st c := by
  intro ψ S a w ht hO
  have hv := Sim.eval_tmps ht x
  have key : ∃ (cs : Array Value) (v : Value), a.eval x = .tuple cs ∧ cs[i]? = some v ∧ RV ψ (· ∈ st.ids) S w v c := by
    generalize st.eval x = y at hv hc
    generalize a.eval x = u at hv
    split at hc
    · rename_i xs
      have hv := hv.inv
      cases hv with
      | @tup cs _ hl hr =>
        simp only [Option.map_eq_some_iff] at hc
        obtain ⟨z, hz, rfl⟩ := hc
        have hi : i < cs.size := by rw [hl]; exact (List.getElem?_eq_some_iff.1 hz).1
        exact ⟨cs, cs[i], rfl, by simp [hi], .fz (hr i _ z (by simp [hi]) hz)⟩
    · rename_i xs
      cases hv with
      | @tup cs _ hl hr =>
        have hi : i < cs.size := by rw [hl]; exact (List.getElem?_eq_some_iff.1 hc).1
        exact ⟨cs, cs[i], rfl, by simp [hi], hr i _ c (by simp [hi]) hc⟩
    · cases hc
  obtain ⟨cs, v, h1, h2, h3⟩ := key
  refine relAt_ok (w' := w) (v := v) ?_ ⟨grow_refl _, h3.here⟩
  simp [execOp, ho, h1, Instr.extract, h2]

/-- nil is refused -/
theorem n_nilCheck {x : Operand} {c : AV} (ho : o.op = .nilCheck x) (hc : fieldX st 0 (st.eval x) = some c) : NStep P o st c := by
  intro ψ S a w ht hO
  obtain ⟨b, off', hv, hr⟩ := fieldX_ok (Sim.eval_tmps ht x) hO hc
  refine relAt_ok (w' := w) ?_ ⟨grow_refl _, hr.here⟩
  simp [execOp, ho, hv]
end
end Go.Proofs.Ytaeicmnimjfbaaa
