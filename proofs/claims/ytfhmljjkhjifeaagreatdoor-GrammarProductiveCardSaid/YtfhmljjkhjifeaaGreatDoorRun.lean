/- Operations computed one after the other; states that say less. -/
import Derived.Test.YtfhmljjkhjifeaaGreatDoorOpx
set_option linter.unusedVariables false
set_option linter.unusedSimpArgs false
namespace Go.Proofs.YtfhmljjkhjifeaaGreatDoor
open Go Go.RowKit

abbrev Res := Option (AV × List (Nat × AObj) × List Nat)
def fresh (l : List Nat) : Nat := l.foldl Nat.max 0 + 1
def nres (st : St) (c : Option AV) : Res := match c with
  | some c => some (c, st.heap, st.ids)
  | none => none
def isBoolT (T : List (TypeId × TD)) (t : TypeId) : Bool := match lookT T t with
  | some d => match d.kind with
    | .bool => true
    | _ => false
  | none => false
def lenX (T : List (TypeId × TD)) (st : St) (x : Operand) (t : TypeId) : Option AV := match lookT T t with
  | some d => match d.kind, st.eval x with
    | .slice _, x => match lenOf x with
      | some n => some (.fz (.atom (.int .i64 n)))
      | none => none
    | .str, .fz (.atom (.string s)) => some (.fz (.atom (.int .i64 s.size)))
    | _, _ => none
  | none => none
def fldX (T : List (TypeId × TD)) (st : St) (s : TypeId) (x : Operand) (f : Nat) : Option AV := match lookT T s with
  | some d => match d.kind with
    | .st fs => match fs[f]? with
      | some (ft, off) => match lookT T ft with
        | some df => bif Nat.beq df.size 0 then none else fieldX st off (st.eval x)
        | none => none
      | none => none
    | _ => none
  | none => none
def litX (T : List (TypeId × TD)) (st : St) (t : TypeId) (n : Nat) (parts : Array (Nat × Operand)) : Option AV := match lookT T t with
  | some d => match d.kind with
    | .slice e => match lookT T e with
      | some de => match partsF de.size 0 (evalParts st parts) with
        | some xs => bif Nat.beq xs.length n && (Nat.ble 1 de.size && Nat.ble (n * de.size) 16777216) then some (.lim de.size n xs) else none
        | none => none
      | none => none
    | _ => none
  | none => none
def boxX (e : TypeId) (st : St) (cells : List AV) : Res := bif cells.all AV.single && !st.ids.contains (fresh st.ids) then some (.ref (fresh st.ids) 0 0, (fresh st.ids, .box e cells) :: st.heap, fresh st.ids :: st.ids) else none
def storeX (T : List (TypeId × TD)) (st : St) (t : TypeId) (x y : Operand) : Res := match lookT T t, st.eval x with
  | some d, .ref id n off => match lookO st.heap id with
    | some (.box e cells) => bif Nat.beq n 0 && (Nat.beq (st.eval y).cells.length d.size && ((st.eval y).cells.all AV.single && Nat.ble (off + (st.eval y).cells.length) cells.length)) then some (.any, (id, .box e (spliceA cells off (st.eval y).cells)) :: st.heap, st.ids) else none
    | _ => none
  | _, _ => none
def nstep (T : List (TypeId × TD)) (o : Oper) (st : St) : Option AV := match o.op with
  | .move x => some (st.eval x)
  | .assign x => some (st.eval x)
  | .pick c x y => match st.eval c with
    | .fz (.atom (.bool b)) => some (bif b then st.eval x else st.eval y)
    | _ => none
  | .binOp op t x y _ => match st.eval x, st.eval y with
    | .fz (.atom u), .fz (.atom v) => match binV (isBoolT T t) op u v with
      | some r => some (.fz (.atom r))
      | none => none
    | _, _ => none
  | .unOp op _ x => match st.eval x with
    | .fz (.atom u) => match unV op u with
      | some r => some (.fz (.atom r))
      | none => none
    | _ => none
  | .load t x => match lookT T t, cellsAt st (st.eval x) with
    | some d, some xs => loadX d xs
    | _, _ => none
  | .fieldAddr s x f => fldX T st s x f
  | .extract x i => match st.eval x with | .fz (.tup xs) => (xs[i]?).map .fz | .tup xs => xs[i]? | _ => none
  | .nilCheck x => fieldX st 0 (st.eval x)
  | .build t parts => buildX T st t parts
  | .indexAddr t x y => arrX T st t x y
  | .buildSlice t n parts => litX T st t n parts
  | .call c => match c.callee, c.args.toList, c.argTypes.toList with
    | .builtin .len, [x], [t] => lenX T st x t
    | _, _, _ => none
  | .makeFunc (.func f) first cap => bif first.isEmpty then some (.fn f (cap.toList.map st.eval)) else (bif cap.isEmpty then some (.mth f (first.toList.map st.eval)) else none)
  | _ => none
def xstep (T : List (TypeId × TD)) (o : Oper) (st : St) : Res := match o.op with
  | .box e x => boxX e st (st.eval x).cells
  | .alloc e => match lookT T e with
    | some d => match zeroA d with
      | some cells => boxX e st cells
      | none => none
    | none => none
  | .store t x y => storeX T st t x y
  | _ => nres st (nstep T o st)

section
variable {P : Program} {w w' : World} {S S' : Nat → Prop} {ψ : Env} {T : List (TypeId × TD)} {o : Oper} {a : Act} {st : St}

theorem nres_step {c0 : Option AV} {c : AV} {h : List (Nat × AObj)} {i : List Nat} (hr : nres st c0 = some (c, h, i)) (hn : ∀ x, c0 = some x → NStep P o st x) : StepA P o st c h i := by
  cases c0 with
  | none => cases hr
  | some x =>
    simp only [nres, Option.some.injEq, Prod.mk.injEq] at hr
    obtain ⟨rfl, rfl, rfl⟩ := hr
    exact (hn x rfl).step
theorem array_one {α : Type} {xs : Array α} {x : α} (h : xs.toList = [x]) : xs = #[x] := by
  apply Array.ext'; simpa using h
theorem nstep_ok (hT : TOk P T) {c : AV} (hx : nstep T o st = some c) : NStep P o st c := by
  unfold nstep at hx
  split at hx
  · rename_i x ho; injection hx with hx; subst hx; exact n_move (.inl ho)
  · rename_i x ho; injection hx with hx; subst hx; exact n_move (.inr ho)
  · rename_i c x y ho
    split at hx
    · rename_i b hb
      injection hx with hx; subst hx; exact n_pick ho hb
    · cases hx
  · rename_i op t x y yt ho
    split at hx
    · rename_i u v hu hv
      split at hx
      · rename_i r hr
        injection hx with hx
        subst hx
        refine n_bin (isBoolT T t) (fun hb => ?_) ho hu hv hr
        unfold isBoolT at hb
        split at hb
        · rename_i d hd
          split at hb
          · rename_i hk
            obtain ⟨_, e, h1, h2⟩ := hT.get hd
            rw [hk] at h2
            cases e <;> simp [kindOk] at h2
            exact h1
          · cases hb
        · cases hb
      · cases hx
    · cases hx
  · rename_i op t x ho
    split at hx
    · rename_i u hu
      split at hx
      · rename_i r hr
        injection hx with hx; subst hx; exact n_un ho hu hr
      · cases hx
    · cases hx
  · rename_i t x ho
    split at hx
    · rename_i d xs hd hxs
      exact n_load ho (hT.get hd) hxs hx
    · cases hx
  · rename_i s x f ho
    unfold fldX at hx
    split at hx
    · rename_i d hd
      split at hx
      · rename_i fs hk
        split at hx
        · rename_i ft off hf
          split at hx
          · rename_i df hdf
            cases hb : Nat.beq df.size 0 with
            | true => rw [hb] at hx; cases hx
            | false =>
              rw [hb] at hx
              exact n_field ho (hT.get hd) hk hf (hT.get hdf) (fun e => by rw [e] at hb; cases hb) hx
          · cases hx
        · cases hx
      · cases hx
    · cases hx
  · rename_i x i ho
    exact n_extract ho hx
  · rename_i x ho
    exact n_nilCheck ho hx
  · rename_i t parts ho
    exact n_build hT ho hx
  · rename_i t x y ho
    exact n_arr hT ho hx
  · rename_i t n parts ho
    unfold litX at hx
    split at hx
    · rename_i d hd
      split at hx
      · rename_i e hk
        split at hx
        · rename_i de hde
          split at hx
          · rename_i xs hxs
            cases hb : (Nat.beq xs.length n && (Nat.ble 1 de.size && Nat.ble (n * de.size) 16777216)) with
            | false => rw [hb] at hx; cases hx
            | true =>
              rw [hb] at hx
              simp only [cond_true, Option.some.injEq] at hx
              subst hx
              simp only [Bool.and_eq_true] at hb
              exact n_lit ho (hT.get hd) hk (hT.get hde) (Nat.le_of_ble_eq_true hb.2.1) (Nat.eq_of_beq_eq_true hb.1) (Nat.le_of_ble_eq_true hb.2.2) hxs
          · cases hx
        · cases hx
      · cases hx
    · cases hx
  · rename_i c ho
    split at hx
    · rename_i x t h1 h2 h3
      have ho' : o.op = .call { callee := .builtin .len, args := #[x], argTypes := #[t] } := by
        obtain ⟨cl, as, ts⟩ := c
        simp only at h1 h2 h3
        rw [ho, h1, array_one h2, array_one h3]
      unfold lenX at hx
      split at hx
      · rename_i d hd
        split at hx
        · rename_i e hk
          split at hx
          · rename_i n hn
            injection hx with hx; subst hx
            exact n_len_list ho' (hT.get hd) hk hn
          · cases hx
        · rename_i s hk hv
          injection hx with hx; subst hx
          exact n_len_str ho' (hT.get hd) hk hv
        · cases hx
      · cases hx
    · cases hx
  · rename_i f first cap ho
    cases hb : first.isEmpty with
    | false =>
      rw [hb] at hx
      cases hb2 : cap.isEmpty with
      | false => rw [hb2] at hx; cases hx
      | true =>
        rw [hb2] at hx
        have : cap = #[] := by simpa using hb2
        subst this
        simp only [cond_false, cond_true, Option.some.injEq] at hx
        subst hx; exact n_mth ho
    | true =>
      rw [hb] at hx
      have : first = #[] := by simpa using hb
      subst this
      simp only [cond_true, Option.some.injEq] at hx
      subst hx; exact n_func ho
  · cases hx
theorem xstep_ok (hT : TOk P T) {c : AV} {h : List (Nat × AObj)} {i : List Nat} (hx : xstep T o st = some (c, h, i)) : StepA P o st c h i := by
  unfold xstep at hx
  split at hx
  · rename_i e x ho
    unfold boxX at hx
    cases hb : ((st.eval x).cells.all AV.single && !st.ids.contains (Go.Proofs.YtfhmljjkhjifeaaGreatDoor.fresh st.ids)) with
    | false => rw [hb] at hx; cases hx
    | true =>
      rw [hb] at hx
      simp only [cond_true, Option.some.injEq, Prod.mk.injEq] at hx
      obtain ⟨rfl, rfl, rfl⟩ := hx
      simp only [Bool.and_eq_true, Bool.not_eq_true'] at hb
      exact e_box ho rfl hb.1 hb.2
  · rename_i e ho
    split at hx
    · rename_i d hd
      split at hx
      · rename_i cells hz
        unfold boxX at hx
        cases hb : (cells.all AV.single && !st.ids.contains (Go.Proofs.YtfhmljjkhjifeaaGreatDoor.fresh st.ids)) with
        | false => rw [hb] at hx; cases hx
        | true =>
          rw [hb] at hx
          simp only [cond_true, Option.some.injEq, Prod.mk.injEq] at hx
          obtain ⟨rfl, rfl, rfl⟩ := hx
          simp only [Bool.and_eq_true, Bool.not_eq_true'] at hb
          exact e_alloc ho (hT.get hd) hz hb.2
      · cases hx
    · cases hx
  · rename_i t x y ho
    unfold storeX at hx
    split at hx
    · rename_i d id n off hd hxx
      split at hx
      · rename_i e cells hob
        cases hb : (Nat.beq n 0 && (Nat.beq (st.eval y).cells.length d.size && ((st.eval y).cells.all AV.single && Nat.ble (off + (st.eval y).cells.length) cells.length))) with
        | false => rw [hb] at hx; cases hx
        | true =>
          rw [hb] at hx
          simp only [cond_true, Option.some.injEq, Prod.mk.injEq] at hx
          obtain ⟨rfl, rfl, rfl⟩ := hx
          simp only [Bool.and_eq_true] at hb
          obtain ⟨b1, b2, b3, b4⟩ := hb
          obtain rfl := Nat.eq_of_beq_eq_true b1
          exact e_store ho (hT.get hd) hxx hob rfl (Nat.eq_of_beq_eq_true b2) b3 (Nat.le_of_ble_eq_true b4)
      · cases hx
    · cases hx
  · exact nres_step hx fun z hz => nstep_ok hT hz

/-- so many operations -/
def dstOk (st : St) (o : Oper) : Bool := match o.dst with
  | some t => Nat.blt t st.n
  | none => true
theorem dst_of {st : St} {o : Oper} (h : dstOk st o = true) : ∀ t, o.dst = some t → t < st.n := fun t ht => by
  unfold dstOk at h
  rw [ht] at h
  exact of_decide_eq_true (by simpa [Nat.blt_eq] using h)
end
end Go.Proofs.YtfhmljjkhjifeaaGreatDoor
