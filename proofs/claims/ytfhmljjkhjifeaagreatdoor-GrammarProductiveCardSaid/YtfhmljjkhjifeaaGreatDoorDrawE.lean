/- Regions that draw their order, in whose head one append to a row of the call's own stands: computed in the order of the text. -/
import Derived.Test.YtfhmljjkhjifeaaGreatDoorRelE
import Derived.Test.YtfhmljjkhjifeaaGreatDoorOpy
import Derived.Lib.Bytealg
set_option linter.unusedVariables false
set_option linter.unusedSimpArgs false
namespace Go.Proofs.YtfhmljjkhjifeaaGreatDoor
open Go Go.RowKit

def haddG (g : Nat → AV → AV) (base : List (Nat × AV)) : List (Nat × Option Nat × AV) → List (Nat × AV)
  | [] => base
  | (j, some d, c) :: l => (d, g j c) :: haddG g base l
  | (_, none, _) :: l => haddG g base l
/-- an operation that changes object m and no other -/
def EStep (P : Program) (o : Oper) (st : St) (m : Nat) (om : AObj) (c : AV) (om' : AObj) : Prop :=
  ∀ F S0 N0 ψ S a w, (∀ t, RV ψ (· ∈ st.ids) S w (a.tmps.getD t undef) (st.get t)) → Core F S0 N0 [(m, om)] st.ids ψ S w → relAt P o a w fun v w' => ∃ n u, Core F S0 N0 [(m, om')] st.ids (ψ.set m n u) S w' ∧ RV (ψ.set m n u) (· ∈ st.ids) S w' v c ∧ Fr F w w' ∧
    (ψ.len m < n ∨ (ψ.len m = n ∧ u = ψ.val m)) ∧ (∀ b, Blk u b → Blk (ψ.val m) b ∨ w.heap.size ≤ b)
section
variable {P : Program} {F S0 : Nat → Prop} {N0 : Nat} {w w' : World} {S S' : Nat → Prop} {ψ ψ' : Env} {K K' : Nat → Prop} {o : Oper} {a : Act} {st : St} {T : List (TypeId × TD)} {t : TypeId} {d : TD}

def GnE (ψ : Env) (ids : List Nat) (SN : Nat → Prop) (c : AV) (v : Value) (w : World) : Prop := RV ψ (· ∈ ids) SN w v c
def GeE (F S0 : Nat → Prop) (N0 : Nat) (ψ : Env) (ids : List Nat) (S SN : Nat → Prop) (z : Nat) (m : Nat) (om' : AObj) (c : AV) (v : Value) (w : World) : Prop :=
  ∃ n u S'', Core F S0 N0 [(m, om')] ids (ψ.set m n u) S'' w ∧ RV (ψ.set m n u) (· ∈ ids) S'' w v c ∧ (ψ.len m < n ∨ (ψ.len m = n ∧ u = ψ.val m)) ∧ (∀ b, Blk u b → Blk (ψ.val m) b ∨ z ≤ b) ∧ (∀ b, S b → S'' b) ∧ (∀ b, S'' b → SN b)

theorem Core.grow0 {heap : List (Nat × AObj)} {ids : List Nat} (h : Core F S0 N0 heap ids ψ S w) (hg : Below w.heap.size w w') : Core F S0 N0 heap ids ψ S w' := by
  have hk : Same S w w' := fun b _ hl => hg.block b hl
  refine ⟨fun id o ho => ?_, h.inj, fun b hb => Nat.lt_of_lt_of_le (h.lt b hb) hg.size, h.s0, Nat.le_trans h.n0 hg.size, fun b hb => Nat.lt_of_lt_of_le (h.fr b hb) hg.size⟩
  obtain ⟨h1, h2, h3⟩ := h.obj id o ho
  exact ⟨h1, h2.keep Ext.refl (fun _ h => h) (fun _ h => h) hk ⟨rfl, rfl⟩ fun b hb => hg.block b (h2.lt hb), h3⟩
theorem GeE.keep {ids : List Nat} {SN : Nat → Prop} {z m : Nat} {om' : AObj} {c : AV} {v : Value} (h : GeE F S0 N0 ψ ids S SN z m om' c v w) (hg : Below w.heap.size w w') : GeE F S0 N0 ψ ids S SN z m om' c v w' := by
  obtain ⟨n, u, S'', h1, h2, h3⟩ := h
  exact ⟨n, u, S'', h1.grow0 hg, h2.keep Ext.refl (fun _ h => h) (fun _ h => h) (fun b _ hl => hg.block b hl), h3⟩

/-- what the frame has to do with the values so far -/
def HInvE (ψ : Env) (ids : List Nat) (SN : Nat → Prop) (C : World → Prop) (e : Nat) (ce : AV) (ve : Value) (i : Nat) (a0 a : Act) (fs : List (Nat × Option Nat × AV)) (facts : Nat → World → Prop) (base : List (Nat × AV)) : Prop :=
  ∀ (p : Nat → Bool) (g : Nat → AV → AV) (R : Value → AV → Prop) (w : World), C w → (∀ j, p j = true → j ≠ e → facts j w) → (∀ j c v, j ≠ e → p j = true → GnE ψ ids SN c v w → R v (g j c)) → (∀ j c v, p j = false → R v (g j c)) →
    (e < i → p e = true → R ve (g e ce)) → (∀ t, R (a0.tmps.getD t undef) (look .any base t)) → ∀ t, R (a.tmps.getD t undef) (look .any (haddG g base fs) t)

theorem HInvE.put {ids : List Nat} {SN : Nat → Prop} {C : World → Prop} {e : Nat} {ce : AV} {ve : Value} {i : Nat} {a0 a : Act} {fs : List (Nat × Option Nat × AV)} {facts facts' : Nat → World → Prop} {base : List (Nat × AV)} {n : Nat} {c : AV} {v : Value}
    (h : HInvE ψ ids SN C e ce ve i a0 a fs facts base) (hsz : a.tmps.size = n) (hod : ∀ t, o.dst = some t → t < n) (hf : ∀ j w, j ≠ e → facts' j w → facts j w) {ce' : AV} {ve' : Value}
    (hi : i ≠ e → ce' = ce ∧ ve' = ve ∧ ∀ w, facts' i w → GnE ψ ids SN c v w) (hi' : i = e → ce' = c ∧ ve' = v) : HInvE ψ ids SN C e ce' ve' (i + 1) a0 (a.put o.dst v) ((i, o.dst, c) :: fs) facts' base := by
  intro p g R w hC hp h1 h2 h3 hb t
  have old := h p g R w hC (fun j hj hne => hf j w hne (hp j hj hne)) h1 h2 (fun hlt hpe => by
    obtain ⟨e1, e2, _⟩ := hi (by omega)
    have := h3 (by omega) hpe
    rw [e1, e2] at this
    exact this) hb t
  rw [getD_put hsz hod]
  cases hdd : o.dst with
  | none => rw [if_neg (by simp)]; exact old
  | some d =>
    simp only [haddG, look_cons]
    by_cases hdt : d = t
    · subst hdt
      rw [if_pos rfl, if_pos rfl]
      cases hpi : p i with
      | false => exact h2 i c v hpi
      | true =>
        by_cases hie : i = e
        · obtain ⟨e1, e2⟩ := hi' hie
          have := h3 (by omega) (hie ▸ hpi)
          rw [e1, e2, ← hie] at this
          exact this
        · exact h1 i c v hie hpi ((hi hie).2.2 w (hp i hpi hie))
    · rw [if_neg (by simpa using hdt), if_neg hdt]
      exact old

theorem own_lst {e : TypeId} {size : Nat} {xs : List FV} {v : Value} {cs : List Value} (hsz : 0 < size) (hown : w.ownsRow 0 e size v xs.length cs) (hel : ElR size xs) (hr : RowR S w size xs cs) : RF (fun b => S b ∨ blkOf v = some b) w v (.lst size xs.length xs) := by
  rcases hown.2 with ⟨hv, hx0⟩ | ⟨g, cap, cur, hv, _, hh, hnc, hcm, hcs, htk⟩
  · have : xs = [] := List.eq_nil_of_length_eq_zero hx0
    subst this
    rw [hv]
    exact .lst (A := none) (cap := 0) (xs := []) (fun _ => []) rfl (Nat.le_refl _) (by omega) hsz (fun i x hx => by simp at hx) (fun i x hx => by simp at hx) (fun i x j v y hx => by simp at hx)
  · rw [hv]
    have hlen : ∀ i x, xs[i]? = some x → (i + 1) * size ≤ cs.length := fun i x hx => by
      rw [hown.1]; exact Nat.mul_le_mul_right _ (List.getElem?_eq_some_iff.1 hx).1
    refine .lst (fun i => (cs.drop (i * size)).take size) rfl hnc (by unfold maxLen at hcm; exact hcm) hsz (fun i x hx => ⟨g, 0, rfl, .inr (by rfl), fun j u hu => ?_⟩) (fun i x hx => ?_) fun i x j v y hx hv' hy => ?_
    · rw [List.getElem?_take] at hu
      split at hu
      · rw [List.getElem?_drop, ← htk, List.getElem?_take] at hu
        split at hu
        · simp only [World.cell?, hh, Nat.zero_add]
          simpa using hu
        · cases hu
      · cases hu
    · have := hlen i x hx
      rw [Nat.add_mul] at this
      exact ⟨by rw [List.length_take, List.length_drop]; omega, hel x (List.mem_of_getElem? hx)⟩
    · rw [List.getElem?_take] at hv'
      split at hv'
      · rw [List.getElem?_drop] at hv'
        exact (hr i x j v y hx hv' hy).mono fun _ h => .inl h
      · cases hv'
theorem s_clone {α : Type} {enc : α → FV} {bytes : Nat} {ys r : List α} {X Y : Operand} {e : TypeId} {de : TD} {m : Nat} (h : app bytes [] ys = some r) (hT : TOk P T) (ho : o.op = .call { callee := .builtin .append, args := #[X, Y], argTypes := #[t, t] }) (hd : lookT T t = some d) (hk : d.kind = .slice e) (hde : lookT T e = some de)
    (hz : Nat.ble 1 de.size = true) (hzl : de.zero.length = de.size) (hby : de.bytes = bytes) (hx : st.eval X = .fz (.atom (.slice none 0 0))) (hy : st.eval Y = .fz (.lst de.size m (ys.map enc)) ∨ st.eval Y = .lim de.size m (ys.map enc)) :
    NStep P o st (.fz (eL de.size enc r)) := by
  obtain ⟨hr0, hlen⟩ := app_some h
  have hr1 : ys = r := by simpa using hr0.symm
  subst hr1
  subst hby
  intro ψ S a w ht hO
  have hv := Sim.eval_tmps ht X
  rw [hx] at hv
  have hvx := hv.atom
  have hvy : RF S w (a.eval Y) (.lst de.size m (ys.map enc)) := by
    have hv := Sim.eval_tmps ht Y
    rcases hy with hy | hy
    · rw [hy] at hv; exact hv.inv
    · rw [hy] at hv
      generalize a.eval Y = u at hv
      cases hv with
      | lim h => exact h
  have hlen' : (0 + (ys.map enc).length) * de.bytes + (0 + (ys.map enc).length) ≤ 140737488355328 := by
    rw [Nat.mul_add, Nat.mul_one] at hlen; simpa using hlen
  have hsz := Nat.le_of_ble_eq_true hz
  obtain ⟨v', w', news, hrun, hown', hgrow, hob', hnl, hnr, hnel, hnil⟩ := run_app (ty := o.type) (n := 0) (cs := []) (v := .slice none 0 0) ((hT.get hd).slice hk) (hT.get hde) hsz hzl ⟨by simp, .inl ⟨rfl, rfl⟩⟩ hvy (by omega) (by omega)
  have hgr : Grow w w' := ⟨hgrow.os, hgrow.tape, hgrow.output, hgrow.size, fun k hk => hgrow.block k hk fun e => by cases e⟩
  rw [Nat.zero_add, List.nil_append] at hown'
  have hf := own_lst (S := S) hsz hown' hnel (fun i x j v y h1 h2 h3 => (hnr i x j v y h1 h2 h3).keep (Same.of_grow hgr))
  refine relAt_ok (w' := w') (v := v') ?_ ⟨hgr, .fz ?_⟩
  · simp only [execOp, ho, resolve, invoke, builtin, Sem.run_bind, Sem.run_pure, Result.andThen_ok, List.map_toArray, List.map_cons, List.map_nil, hvx, hrun]
  · have hq : eL de.size enc ys = .lst de.size (ys.map enc).length (ys.map enc) := by simp [eL]
    rw [hq]
    refine hf.mono fun b hb => hb.elim .inl fun hb => .inr ?_
    rw [blk_own hown'] at hb
    rcases hob' with h | h
    · rw [h] at hb; cases hb
    · rw [h] at hb; injection hb with hb; omega

/-- internal/bytealg.IndexByteString, for which the model stands in -/
theorem s_idxByte {f : FuncId} {fn : Func} {ts : Array TypeId} {X Y : Operand} {s : ByteArray} {c : Int} (ho : o.op = .call { callee := .value (.func f), args := #[X, Y], argTypes := ts }) (hf : P.funcs[f]? = some fn)
    (hname : (fn.name == "runtime.NumGoroutine") = false) (hb : fn.body.isNone = true) (hn : Extern.findNext fn = none) (he : Extern.find fn = some Extern.BytealgIndexByte.indexByte)
    (hx : st.eval X = .fz (eS s)) (hy : st.eval Y = .fz (eU8 c)) : NStep P o st (.fz (eI (Lib.indexByte s.data.toList c.toNat.toUInt8))) := by
  intro ψ S a w ht hO
  have h1 := Sim.eval_tmps ht X
  rw [hx] at h1
  have h1 := h1.atom
  have h2 := Sim.eval_tmps ht Y
  rw [hy] at h2
  have h2 := h2.atom
  refine relAt_ok (w' := w) (v := .int .i64 (Lib.indexByte s.data.toList c.toNat.toUInt8)) ?_ ⟨grow_refl _, .fz (.atom rfl)⟩
  have h0 : a.eval (.func f) = .func (.func f) #[] #[] := rfl
  simp [execOp, ho, resolve, h0, Deferred.ofValue, invoke, run_callFunc_extern hf hname hb hn he, h1, h2, Lib.run_indexByteString]
end
end Go.Proofs.YtfhmljjkhjifeaaGreatDoor
