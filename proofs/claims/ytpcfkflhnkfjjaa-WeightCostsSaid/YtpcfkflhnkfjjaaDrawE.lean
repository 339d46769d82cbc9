/- Regions that draw their order, in whose head one append to a row of the call's own stands: computed in the order of the text. -/
import Derived.Test.YtpcfkflhnkfjjaaRelE
import Derived.Test.YtpcfkflhnkfjjaaOpy
import Derived.Lib.Bytealg
set_option linter.unusedVariables false
set_option linter.unusedSimpArgs false
namespace Go.Proofs.Ytpcfkflhnkfjjaa
open Go Go.RowKit

/-- no memory but the call's own -/
def flatA : AV → Bool
  | .fz (.atom _) => true
  | .ref _ _ _ => true
  | .row _ _ => true
  | .any => true
  | .fz (.tup []) => true
  | _ => false
def haddG (g : Nat → AV → AV) (base : List (Nat × AV)) : List (Nat × Option Nat × AV) → List (Nat × AV)
  | [] => base
  | (j, some d, c) :: l => (d, g j c) :: haddG g base l
  | (_, none, _) :: l => haddG g base l
def gP (p : Nat → Bool) (j : Nat) (c : AV) : AV := bif p j then c else .any
def gE (_ : Nat) (c : AV) : AV := bif flatA c then c else .any
/-- the state that an operation sees that must not look at object m -/
def hste (st : St) (fs : List (Nat × Option Nat × AV)) (p : Nat → Bool) : St := { st with tmps := haddG (gP p) st.tmps fs }
def hstm (st : St) (e m : Nat) (fs : List (Nat × Option Nat × AV)) (p : Nat → Bool) : St := { st with tmps := haddG (gP fun j => p j && !Nat.beq j e) st.tmps fs, heap := dropO m st.heap }
def hendE (st : St) (m : Nat) (om : AObj) (fs : List (Nat × Option Nat × AV)) : St := { st with tmps := haddG gE st.tmps fs, heap := (m, om) :: st.heap }
/-- an operation that changes object m and no other -/
def EStep (P : Program) (o : Oper) (st : St) (m : Nat) (om : AObj) (c : AV) (om' : AObj) : Prop :=
  ∀ F S0 N0 ψ S a w, (∀ t, RV ψ (· ∈ st.ids) S w (a.tmps.getD t undef) (st.get t)) → Core F S0 N0 [(m, om)] st.ids ψ S w → relAt P o a w fun v w' => ∃ n u, Core F S0 N0 [(m, om')] st.ids (ψ.set m n u) S w' ∧ RV (ψ.set m n u) (· ∈ st.ids) S w' v c ∧ Fr F w w' ∧
    (ψ.len m < n ∨ (ψ.len m = n ∧ u = ψ.val m)) ∧ (∀ b, Blk u b → Blk (ψ.val m) b ∨ w.heap.size ≤ b)
def headE (P : Program) (ops : Array Oper) (Q : Exit → St → Prop) (st : St) (e m : Nat) (om om' : AObj) : List AV → Nat → List Oper → List (Nat × Option Nat × AV) → Prop
  | [], _, l, fs => awpL P ops l (hendE st m om' fs) Q
  | c :: cs, i, o :: l, fs => ((i = e ∧ guardA ops (hste st fs (afterB o)) o = some true ∧ EStep P o (hste st fs (afterB o)) m om c om')
      ∨ (i ≠ e ∧ ((guardA ops (hstm st e m fs (afterB o)) o = some true ∧ NStep P o (hstm st e m fs (afterB o)) c) ∨ (guardA ops (hstm st e m fs (afterB o)) o = some false ∧ c = .fz (.tup []))))) ∧ headE P ops Q st e m om om' cs (i + 1) l ((i, o.dst, c) :: fs)
  | _ :: _, _, [], _ => False

section
variable {P : Program} {F S0 : Nat → Prop} {N0 : Nat} {w w' : World} {S S' : Nat → Prop} {ψ ψ' : Env} {K K' : Nat → Prop} {o : Oper} {a : Act} {st : St} {T : List (TypeId × TD)} {t : TypeId} {d : TD}

theorem s_appE {α : Type} {enc : α → FV} {bytes : Nat} {xs ys r : List α} {X Y : Operand} {e : TypeId} {de : TD} {n m id : Nat} (h : app bytes xs ys = some r) (hT : TOk P T) (ho : o.op = .call { callee := .builtin .append, args := #[X, Y], argTypes := #[t, t] }) (hd : lookT T t = some d) (hk : d.kind = .slice e) (hde : lookT T e = some de)
    (hz : Nat.ble 1 de.size = true) (hzl : de.zero.length = de.size) (hby : de.bytes = bytes) (hx : st.eval X = .row id n) (hn : n = xs.length) (hy : st.eval Y = .fz (.lst de.size m (ys.map enc)) ∨ st.eval Y = .lim de.size m (ys.map enc)) :
    EStep P o st id (.frow e de.size (xs.map enc)) (.row id r.length) (.frow e de.size (r.map enc)) := by
  obtain ⟨rfl, hlen⟩ := app_some h
  subst hby
  intro F S0 N0 ψ S a w ht hcore
  have hob : lookO [(id, AObj.frow e de.size (xs.map enc))] id = some (.frow e de.size (xs.map enc)) := by rw [lookO_cons, if_pos rfl]
  obtain ⟨hid, ⟨h0, hsz, cs, hown, hel, hr⟩, hfr⟩ := hcore.obj id _ hob
  have hv := Sim.eval_tmps ht X
  rw [hx] at hv
  have hvx : a.eval X = ψ.val id := by
    generalize a.eval X = u at hv
    cases hv with
    | row hK hn' h1 hv => exact hv (by rw [h0, hn]; simp)
  have hvy : RF S w (a.eval Y) (.lst de.size m (ys.map enc)) := by
    have hv := Sim.eval_tmps ht Y
    rcases hy with hy | hy
    · rw [hy] at hv; exact hv.inv
    · rw [hy] at hv
      generalize a.eval Y = u at hv
      cases hv with
      | lim h => exact h
  have hlen' : ((xs.map enc).length + (ys.map enc).length) * de.bytes + ((xs.map enc).length + (ys.map enc).length) ≤ 140737488355328 := by
    rw [Nat.mul_add, Nat.mul_one] at hlen; simpa using hlen
  obtain ⟨v', w', news, hrun, hown', hgrow, hob', hnl, hnr, hnel, hnil⟩ := run_app (ty := o.type) ((hT.get hd).slice hk) (hT.get hde) (Nat.le_of_ble_eq_true hz) hzl hown hvy (by omega) (by omega)
  have hlx : ((xs ++ ys).map enc).length = (xs.map enc).length + (ys.map enc).length := by simp
  have hx2 : ψ.len id < ((xs ++ ys).map enc).length ∨ (ψ.len id = ((xs ++ ys).map enc).length ∧ v' = ψ.val id) := by
    by_cases h0' : ys.map enc = []
    · refine .inr ⟨by rw [h0, hlx, h0']; simp, hnil h0'⟩
    · have : 0 < (ys.map enc).length := List.length_pos_iff.2 h0'
      exact .inl (by omega)
  have hoth : ∀ k, k < w.heap.size → ¬ Blk (ψ.val id) k → w'.heap[k]? = w.heap[k]? := fun k hk hne => hgrow.block k hk fun e => hne (own_Blk hown e.symm)
  have hk2 : Same S w w' := fun k hk hl => hoth k hl fun e => (hfr k e).1 hk
  have hbv : ∀ b, Blk v' b → Blk (ψ.val id) b ∨ w.heap.size ≤ b := fun b hb => by
    have hb := Blk_own hown' hb
    rcases hob' with h | h
    · exact .inl (own_Blk hown (h ▸ hb))
    · rw [h] at hb; injection hb with hb; exact .inr (by omega)
  obtain ⟨c1, c2, c3⟩ := hcore.upd (n := ((xs ++ ys).map enc).length) (v := v') (w' := w') (ob' := .frow e de.size ((xs ++ ys).map enc)) hob hgrow.size hoth hx2 hbv
    ⟨set_len _ _, hsz, cs ++ news, by rw [set_val, hlx]; exact hown', (fun z hz => by rw [List.map_append] at hz; exact (List.mem_append.1 hz).elim (hel z) (hnel z)), by
      rw [List.map_append]; exact (RowR.append hsz (fun i x j v y h1 h2 h3 => hr i x j v y h1 h2 h3) hnr hown.1 hel).keep hk2⟩
  have c1' : Core F S0 N0 [(id, .frow e de.size ((xs ++ ys).map enc))] st.ids (ψ.set id ((xs ++ ys).map enc).length v') S w' := by
    have up : ∀ {i ob}, lookO [(id, AObj.frow e de.size ((xs ++ ys).map enc))] i = some ob → lookO ((id, AObj.frow e de.size ((xs ++ ys).map enc)) :: [(id, AObj.frow e de.size (xs.map enc))]) i = some ob := fun {i ob} hi => by
      rw [lookO_cons] at hi ⊢
      split at hi
      · rename_i he; rw [if_pos he]; exact hi
      · cases hi
    exact ⟨fun i ob hi => c1.obj i ob (up hi), fun i i' ob ob' b hi hi' => c1.inj i i' ob ob' b (up hi) (up hi'), c1.lt, c1.s0, c1.n0, c1.fr⟩
  have hll : ((xs ++ ys).map enc).length = (xs ++ ys).length := List.length_map ..
  refine relAt_ok (w' := w') (v := v') ?_ ⟨_, _, c1', .row hid (by rw [set_len, hll]; exact Nat.le_refl _) (own_one hown') (fun _ => (set_val _ _).symm), ⟨hgrow.os, hgrow.tape, hgrow.output, hgrow.size, c3⟩, hx2, hbv⟩
  simp only [execOp, ho, resolve, invoke, builtin, Sem.run_bind, Sem.run_pure, Result.andThen_ok, List.map_toArray, List.map_cons, List.map_nil, hvx, hrun]

theorem flatA_keep {ψ' : Env} {S2 : Nat → Prop} {v : Value} {c : AV} (hf : flatA c = true) (h : RV ψ K S w v c) (hψ : Ext K ψ ψ') : RV ψ' K S2 w' v c := by
  have h0 : RV ψ K (fun _ => False) w v c := by
    cases h with
    | fz h =>
      rename_i x
      cases x with
      | atom u => cases h with | atom hs => exact .fz (.atom hs)
      | tup xs =>
        cases xs with
        | nil => cases h with | tup a b => exact .fz (.tup a fun i v x hv hx => by simp at hx)
        | cons y ys => cases hf
      | agg => cases hf
      | lst => cases hf
      | fp => cases hf
    | ref a b c d => exact .ref a b c d
    | row a b c d => exact .row a b c d
    | any => exact .any
    | _ => cases hf
  exact h0.keep hψ (fun _ h => h) (fun _ h => h.elim) (fun _ h => h.elim)

def GnE (ψ : Env) (ids : List Nat) (SN : Nat → Prop) (c : AV) (v : Value) (w : World) : Prop := RV ψ (· ∈ ids) SN w v c
def GeE (F S0 : Nat → Prop) (N0 : Nat) (ψ : Env) (ids : List Nat) (S SN : Nat → Prop) (z : Nat) (m : Nat) (om' : AObj) (c : AV) (v : Value) (w : World) : Prop :=
  ∃ n u S'', Core F S0 N0 [(m, om')] ids (ψ.set m n u) S'' w ∧ RV (ψ.set m n u) (· ∈ ids) S'' w v c ∧ (ψ.len m < n ∨ (ψ.len m = n ∧ u = ψ.val m)) ∧ (∀ b, Blk u b → Blk (ψ.val m) b ∨ z ≤ b) ∧ (∀ b, S b → S'' b) ∧ (∀ b, S'' b → SN b)

theorem Core.grow0 {heap : List (Nat × AObj)} {ids : List Nat} (h : Core F S0 N0 heap ids ψ S w) (hg : Below w.heap.size w w') : Core F S0 N0 heap ids ψ S w' := by
  have hk : Same S w w' := fun b _ hl => hg.block b hl
  refine ⟨fun id o ho => ?_, h.inj, fun b hb => Nat.lt_of_lt_of_le (h.lt b hb) hg.size, h.s0, Nat.le_trans h.n0 hg.size, fun b hb => Nat.lt_of_lt_of_le (h.fr b hb) hg.size⟩
  obtain ⟨h1, h2, h3⟩ := h.obj id o ho
  exact ⟨h1, h2.keep Ext.refl (fun _ h => h) (fun _ h => h) hk ⟨rfl, rfl⟩ fun b hb => hg.block b (h2.lt hb), h3⟩
theorem set_len_ne {id id' n : Nat} {v : Value} (h : id' ≠ id) : (ψ.set id n v).len id' = ψ.len id' := by simp [Env.set, h]
theorem set_val_ne {id id' n : Nat} {v : Value} (h : id' ≠ id) : (ψ.set id n v).val id' = ψ.val id' := by simp [Env.set, h]
theorem GeE.keep {ids : List Nat} {SN : Nat → Prop} {z m : Nat} {om' : AObj} {c : AV} {v : Value} (h : GeE F S0 N0 ψ ids S SN z m om' c v w) (hg : Below w.heap.size w w') : GeE F S0 N0 ψ ids S SN z m om' c v w' := by
  obtain ⟨n, u, S'', h1, h2, h3⟩ := h
  exact ⟨n, u, S'', h1.grow0 hg, h2.keep Ext.refl (fun _ h => h) (fun _ h => h) (fun b _ hl => hg.block b hl), h3⟩

/-- what the frame has to do with the values so far -/
def HInvE (ψ : Env) (ids : List Nat) (SN : Nat → Prop) (C : World → Prop) (e : Nat) (ce : AV) (ve : Value) (i : Nat) (a0 a : Act) (fs : List (Nat × Option Nat × AV)) (facts : Nat → World → Prop) (base : List (Nat × AV)) : Prop :=
  ∀ (p : Nat → Bool) (g : Nat → AV → AV) (R : Value → AV → Prop) (w : World), C w → (∀ j, p j = true → j ≠ e → facts j w) → (∀ j c v, j ≠ e → p j = true → GnE ψ ids SN c v w → R v (g j c)) → (∀ j c v, p j = false → R v (g j c)) →
    (e < i → p e = true → R ve (g e ce)) → (∀ t, R (a0.tmps.getD t undef) (look .any base t)) → ∀ t, R (a.tmps.getD t undef) (look .any (haddG g base fs) t)

def gsE {M : Nat → Prop} (mk mkE : AV → RE.Gd M) (e : Nat) : List AV → Nat → List (RE.Gd M)
  | [], _ => []
  | c :: cs, i => (if i = e then mkE c else mk c) :: gsE mk mkE e cs (i + 1)
theorem gsE_len {M : Nat → Prop} {mk mkE : AV → RE.Gd M} {e : Nat} : ∀ (cs : List AV) (i : Nat), (gsE mk mkE e cs i).length = cs.length
  | [], _ => rfl
  | c :: cs, i => by simp [gsE, gsE_len cs]
theorem gsE_e {M : Nat → Prop} {mk mkE : AV → RE.Gd M} {e : Nat} (hmk : ∀ c, (mk c).isE = false) : ∀ (cs : List AV) (i j : Nat) (g : RE.Gd M), (gsE mk mkE e cs i)[j]? = some g → g.isE = true → i + j = e
  | [], _, j, g, h, _ => by simp [gsE] at h
  | c :: cs, i, 0, g, h, hg => by
    simp only [gsE, List.getElem?_cons_zero, Option.some.injEq] at h
    subst h
    split at hg
    · assumption
    · rw [hmk] at hg; cases hg
  | c :: cs, i, j + 1, g, h, hg => by
    simp only [gsE, List.getElem?_cons_succ] at h
    have := gsE_e hmk cs (i + 1) j g h hg
    omega

theorem HInvE.put {ids : List Nat} {SN : Nat → Prop} {C : World → Prop} {e : Nat} {ce : AV} {ve : Value} {i : Nat} {a0 a : Act} {fs : List (Nat × Option Nat × AV)} {facts facts' : Nat → World → Prop} {base : List (Nat × AV)} {n : Nat} {c : AV} {v : Value}
    (h : HInvE ψ ids SN C e ce ve i a0 a fs facts base) (hsz : a.tmps.size = n) (hod : ∀ t, o.dst = some t → t < n) (hf : ∀ j w, j ≠ e → facts' j w → facts j w) {ce' : AV} {ve' : Value}
    (hi : i ≠ e → ce' = ce ∧ ve' = ve ∧ ∀ w, facts' i w → GnE ψ ids SN c v w) (hi' : i = e → ce' = c ∧ ve' = v) : HInvE ψ ids SN C e ce' ve' (i + 1) a0 (a.put o.dst v) ((i, o.dst, c) :: fs) facts' base := by
  intro p g R w hC hp h1 h2 h3 hb t
  have old := h p g R w hC (fun j hj hne => hf j w hne (hp j hj hne)) h1 h2 (fun hlt hpe => by
    obtain ⟨e1, e2, _⟩ := hi (by omega)
    have := h3 (by omega) hpe
    rw [e1, e2] at this
    exact this) hb t
  rw [getD_put hsz hod]
  cases hdd : o.dst with
  | none => rw [if_neg (by simp)]; exact old
  | some d =>
    simp only [haddG, look_cons]
    by_cases hdt : d = t
    · subst hdt
      rw [if_pos rfl, if_pos rfl]
      cases hpi : p i with
      | false => exact h2 i c v hpi
      | true =>
        by_cases hie : i = e
        · obtain ⟨e1, e2⟩ := hi' hie
          have := h3 (by omega) (hie ▸ hpi)
          rw [e1, e2, ← hie] at this
          exact this
        · exact h1 i c v hie hpi ((hi hie).2.2 w (hp i hpi hie))
    · rw [if_neg (by simpa using hdt), if_neg hdt]
      exact old

theorem gPT {p : Nat → Bool} {G : AV → Value → World → Prop} {R : Value → AV → Prop} (h : ∀ v c, G c v w → R v c) (j : Nat) (c : AV) (v : Value) (hp : p j = true) (hv : G c v w) : R v (gP p j c) := by unfold gP; rw [hp]; exact h v c hv
theorem gPF {p : Nat → Bool} {ids : List Nat} {SN : Nat → Prop} (j : Nat) (c : AV) (v : Value) (hp : p j = false) : RV ψ (· ∈ ids) SN w v (gP p j c) := by unfold gP; rw [hp]; exact .any

theorem head_relE {ops : Array Oper} {Q : Exit → St → Prop} {a0 : Act} {w0 : World} {e m : Nat} {om om' : AObj} (hsim : Sim F S0 N0 st ψ S a0 w0) (hom : lookO st.heap m = some om)
    {SN : Nat → Prop} (hSN : SN = fun b => S b ∨ w0.heap.size ≤ b) {M : Nat → Prop} (hM : M = fun b => Blk (ψ.val m) b) (mk mkE : AV → RE.Gd M)
    (hmk : ∀ c, ∃ hG, mk c = .rel (GnE ψ st.ids SN c) hG) (hmkE : ∀ c, ∃ hG, mkE c = .relE (GeE F S0 N0 ψ st.ids S SN w0.heap.size m om' c) hG) :
    ∀ (cs : List AV) (i : Nat) (l : List Oper) (fs : List (Nat × Option Nat × AV)) (a : Act) (facts : Nat → World → Prop) (ce : AV) (ve : Value), headE P ops Q st e m om om' cs i l fs → a.defers = st.dfr → a.tmps.size = st.n → (∀ k o d, k < cs.length → l[k]? = some o → o.dst = some d → d < st.n) →
      e < i + cs.length → (e < i → ∀ w, facts e w → GeE F S0 N0 ψ st.ids S SN w0.heap.size m om' ce ve w) → (∀ j w, i ≤ j → facts j w) →
      HInvE ψ st.ids SN (RE.Tr M w0) e ce ve i a0 a fs facts st.tmps →
      RE.wpRel e (fun w => Below w0.heap.size w0 w) P ops (RE.Tr M w0) (PostA F S0 N0 w0 Q) (gsE mk mkE e cs i) i l a facts := by
  obtain ⟨hid, hobm, hfrm⟩ := hsim.core.obj m om hom
  have hMlt : ∀ b, M b → b < w0.heap.size := fun b hb => by subst hM; exact hobm.lt hb
  have hMS : ∀ b, S b → ¬ M b := fun b hb hm => by subst hM; exact (hfrm b hm).1 hb
  have hMF : ∀ b, F b → ¬ M b := fun b hb hm => by subst hM; exact (hfrm b hm).2.1 hb
  have sameS : ∀ {w}, RE.Tr M w0 w → Same S w0 w := fun ht b hb hl => ht.block b hl (hMS b hb)
  have basew : ∀ {w}, RE.Tr M w0 w → ∀ t, RV ψ (· ∈ st.ids) SN w (a0.tmps.getD t undef) (look .any st.tmps t) := fun ht t =>
    (hsim.tmps t).keep Ext.refl (fun _ h => h) (fun b h => by subst hSN; exact .inl h) (sameS ht)
  intro cs
  induction cs with
  | nil =>
    intro i l fs a facts ce ve h hd hsz _ hei hfe _ hinv
    show ∀ w, RE.Tr M w0 w → (∀ j, facts j w) → wpList P ops (PostA F S0 N0 w0 Q) l a w
    intro w ht hf
    have hlt : e < i := by simpa using hei
    obtain ⟨n, u, S'', hc, hve, hx, hbu, hS1, hS2⟩ := hfe hlt w (hf e)
    have hext : Ext (· ∈ st.ids) ψ (ψ.set m n u) := by
      intro id _
      by_cases h : id = m
      · subst h
        rw [set_len, set_val]
        rcases hx with hx | ⟨hx, hu⟩
        · exact ⟨by omega, fun he => by omega⟩
        · exact ⟨by omega, fun _ => hu⟩
      · rw [set_len_ne h, set_val_ne h]
        exact ⟨Nat.le_refl _, fun _ => rfl⟩
    have htm := hinv (fun _ => true) gE (fun v c => RV (ψ.set m n u) (· ∈ st.ids) S'' w v c) w ht (fun j _ _ => hf j)
      (fun j c v _ _ hv => by
        unfold gE
        cases hfl : flatA c with
        | false => exact .any
        | true => exact flatA_keep hfl hv hext) (fun _ _ _ h => by cases h)
      (fun _ _ => by
        unfold gE
        cases hfl : flatA ce with
        | false => exact .any
        | true => exact hve)
      (fun t => (hsim.tmps t).keep hext (fun _ h => h) hS1 (sameS ht))
    have hoth : ∀ id ob, id ≠ m → lookO st.heap id = some ob → ∀ b, Blk (ψ.val id) b → ¬ M b := fun id ob hne ho b hb hm => by
      subst hM
      exact hsim.core.inj id m ob om b ho hom hne hb hm
    have hcore : Core F S0 N0 ((m, om') :: st.heap) st.ids (ψ.set m n u) S'' w := by
      refine ⟨fun id ob ho => ?_, fun id id' ob ob' b ho ho' hne hb hb' => ?_, hc.lt, hc.s0, hc.n0, hc.fr⟩
      · rw [lookO_cons] at ho
        by_cases h : m = id
        · subst h
          rw [if_pos rfl] at ho
          exact hc.obj m ob (by rw [lookO_cons, if_pos rfl]; exact ho)
        · rw [if_neg h] at ho
          obtain ⟨k1, k2, k3⟩ := hsim.core.obj id ob ho
          refine ⟨k1, k2.keep hext (fun _ h => h) hS1 (sameS ht) ⟨by rw [set_len_ne (Ne.symm h)], by rw [set_val_ne (Ne.symm h)]⟩ fun b hb => ht.block b (k2.lt hb) (hoth id ob (Ne.symm h) ho b hb), fun b hb => ?_⟩
          rw [set_val_ne (Ne.symm h)] at hb
          refine ⟨fun hs => ?_, (k3 b hb).2⟩
          have := hS2 b hs
          subst hSN
          rcases this with h' | h'
          · exact (k3 b hb).1 h'
          · have := k2.lt hb; omega
      · rw [lookO_cons] at ho ho'
        have key : ∀ id ob, m ≠ id → lookO st.heap id = some ob → ∀ b, Blk u b → ¬ Blk (ψ.val id) b := fun id ob hne ho b hb hb' => by
          rcases hbu b hb with h1 | h1
          · exact hsim.core.inj m id om ob b hom ho hne h1 hb'
          · have := (hsim.core.obj id ob ho).2.1.lt hb'; omega
        by_cases h : m = id
        · subst h
          rw [if_neg hne] at ho'
          rw [set_val] at hb
          rw [set_val_ne (Ne.symm hne)] at hb'
          exact key id' ob' hne ho' b hb hb'
        · rw [if_neg h] at ho
          rw [set_val_ne (Ne.symm h)] at hb
          by_cases h' : m = id'
          · subst h'
            rw [set_val] at hb'
            exact key id ob h ho b hb' hb
          · rw [if_neg h'] at ho'
            rw [set_val_ne (Ne.symm h')] at hb'
            exact hsim.core.inj id id' ob ob' b ho ho' hne hb hb'
    have hs : Sim F S0 N0 (hendE st m om' fs) (ψ.set m n u) S'' a w := ⟨hd, hsz, htm, hcore⟩
    have hfr : Fr F w0 w := ⟨ht.os, ht.tape, ht.output, ht.size, fun b hb => ht.block b (hsim.core.fr b hb) (hMF b hb)⟩
    exact wpList_mono (fun e a' w' k => k.pre hfr) _ _ _ (h F S0 N0 _ _ a w hs)
  | cons c cs ih =>
    intro i l fs a facts ce ve h hd hsz hdst hei hfe hlt hinv
    cases l with
    | nil => exact h.elim
    | cons o l =>
      obtain ⟨h1, h2⟩ := h
      have hod : ∀ t, o.dst = some t → t < st.n := fun t ht => hdst 0 o t (by simp) rfl ht
      have hd' : ∀ v, (a.put o.dst v).defers = st.dfr := fun v => by rw [put_defers']; exact hd
      have hsz' : ∀ v, (a.put o.dst v).tmps.size = st.n := fun v => by rw [put_size]; exact hsz
      have hdst' : ∀ k o' d, k < cs.length → l[k]? = some o' → o'.dst = some d → d < st.n := fun k o' d hk ho hd => hdst (k + 1) o' d (by simp; omega) (by simpa using ho) hd
      have hei' : e < i + 1 + cs.length := by simp at hei; omega
      rcases h1 with ⟨hie, hg1, hE⟩ | ⟨hie, h1⟩
      · subst hie
        obtain ⟨hG, hgc⟩ := hmkE c
        simp only [gsE, if_true, hgc]
        refine ⟨fun w ht hbel hf => ?_, fun v => ?_⟩
        · have hbel := hbel rfl
          have htm := hinv (afterB o) (gP (afterB o)) (fun v c => RV ψ (· ∈ st.ids) SN w v c) w ht (fun j hj _ => hf j hj) (fun j c v _ hp hv => gPT (G := GnE ψ st.ids SN) (fun _ _ h => h) j c v hp hv) gPF (fun h => by omega) (basew ht)
          have hw := wanted_of' (st := hste st fs (afterB o)) htm hg1
          rw [if_pos hw]
          have hc0 : Core F S0 N0 [(m, om)] st.ids ψ S w0 := by
            have up : ∀ {i ob}, lookO [(m, om)] i = some ob → lookO st.heap i = some ob := fun {i ob} hi => by
              rw [lookO_cons] at hi
              split at hi
              · rename_i he; rw [← he, hom]; exact hi
              · cases hi
            exact ⟨fun i ob hi => hsim.core.obj i ob (up hi), fun i i' ob ob' b hi hi' => hsim.core.inj i i' ob ob' b (up hi) (up hi'), hsim.core.lt, hsim.core.s0, hsim.core.n0, hsim.core.fr⟩
          have hg : Grow w0 w := hbel
          have hc1 := hc0.grow hg
          have hF' : Core (fun b => F b ∨ (b < w.heap.size ∧ ¬ M b)) S0 N0 [(m, om)] st.ids ψ (fun b => (S b ∨ w0.heap.size ≤ b) ∧ b < w.heap.size) w := by
            refine ⟨fun i ob hi => ?_, hc1.inj, hc1.lt, hc1.s0, hc1.n0, fun b hb => hb.elim (hc1.fr b) (·.1)⟩
            obtain ⟨k1, k2, k3⟩ := hc1.obj i ob hi
            refine ⟨k1, k2, fun b hb => ⟨(k3 b hb).1, fun hF => ?_, (k3 b hb).2.2⟩⟩
            rcases hF with hF | ⟨_, hF⟩
            · exact (k3 b hb).2.1 hF
            · refine hF ?_
              have him : i = m := by
                rw [lookO_cons] at hi
                split at hi
                · rename_i he; exact he.symm
                · cases hi
              subst hM
              rw [him] at hb
              exact hb
          have htm2 : ∀ t, RV ψ (· ∈ st.ids) (fun b => (S b ∨ w0.heap.size ≤ b) ∧ b < w.heap.size) w (a.tmps.getD t undef) ((hste st fs (afterB o)).get t) := fun t => by
            have := (htm t).bound
            subst hSN
            exact this
          refine relAt_mono ?_ (hE _ S0 N0 ψ _ a w htm2 hF')
          rintro v w' ⟨n, u, k1, k2, k3, k4, k5⟩
          have htr : RE.Tr M w w' := ⟨k3.os, k3.tape, k3.output, k3.size, fun b hb hm => k3.block b (.inr ⟨hb, hm⟩)⟩
          refine ⟨htr, ?_, fun h => absurd rfl h⟩
          refine ⟨n, u, _, ⟨fun j ob hj => ?_, k1.inj, k1.lt, k1.s0, k1.n0, fun b hb => k1.fr b (.inl hb)⟩, k2, k4, fun b hb => (k5 b hb).imp id (fun h => Nat.le_trans hg.size h), fun b hb => ⟨.inl hb, Nat.lt_of_lt_of_le (hsim.core.lt b hb) hg.size⟩, fun b hb => by subst hSN; exact hb.1⟩
          obtain ⟨j1, j2, j3⟩ := k1.obj j ob hj
          exact ⟨j1, j2, fun b hb => ⟨(j3 b hb).1, fun hF => (j3 b hb).2.1 (.inl hF), (j3 b hb).2.2⟩⟩
        · refine ih (i + 1) l _ _ _ c v h2 (hd' v) (hsz' v) hdst' hei' (fun _ w hw => by simpa using hw) (fun j w hj => ?_) ?_
          · rw [if_neg (by omega)]
            exact hlt j w (by omega)
          · refine hinv.put hsz hod (fun j w hne hw => ?_) (fun h => absurd rfl h) (fun _ => ⟨rfl, rfl⟩)
            rw [if_neg hne] at hw; exact hw
      · obtain ⟨hG, hgc⟩ := hmk c
        simp only [gsE, if_neg hie, hgc]
        refine ⟨fun w ht _ hf => ?_, fun v => ?_⟩
        · have hp0 : ∀ j, (afterB o j && !Nat.beq j e) = true → afterB o j = true ∧ j ≠ e := fun j hj => by
            simp only [Bool.and_eq_true] at hj
            refine ⟨hj.1, fun h => ?_⟩
            have := hj.2
            rw [h, Nat.beq_refl] at this
            cases this
          have htm := hinv (fun j => afterB o j && !Nat.beq j e) (gP fun j => afterB o j && !Nat.beq j e) (fun v c => RV ψ (· ∈ st.ids) SN w v c) w ht (fun j hj _ => hf j (hp0 j hj).1) (fun j c v _ hp hv => gPT (G := GnE ψ st.ids SN) (fun _ _ h => h) j c v hp hv) gPF
            (fun _ hpe => absurd rfl (hp0 e hpe).2) (basew ht)
          rcases h1 with ⟨hg1, hn⟩ | ⟨hg1, rfl⟩
          · have hw := wanted_of' (st := hstm st e m fs (afterB o)) htm hg1
            rw [if_pos hw]
            refine relAt_mono ?_ (hn ψ _ a w htm fun id ob ho => ?_)
            · rintro v w' ⟨k1, k2⟩
              refine ⟨RE.Tr.of_grow k1, ?_, fun _ => k1⟩
              exact k2.mono (fun _ h => h) fun b hb => hb.elim (fun h => h) fun h => by subst hSN; exact .inr (Nat.le_trans ht.size h)
            · obtain ⟨hne, ho⟩ := dropO_get m ho
              obtain ⟨e1, e2, e3⟩ := hsim.core.obj id ob ho
              exact e2.keep Ext.refl (fun _ h => h) (fun b h => by subst hSN; exact .inl h) (sameS ht) ⟨rfl, rfl⟩ fun b hb => ht.block b (e2.lt hb) fun hm => by subst hM; exact hsim.core.inj id m ob om b ho hom hne hb hm
          · have hw := wanted_of' (st := hstm st e m fs (afterB o)) htm hg1
            rw [if_neg (by rw [hw]; simp)]
            exact .fz RF.undef
        · refine ih (i + 1) l _ _ _ ce ve h2 (hd' v) (hsz' v) hdst' hei' (fun hlt' w hw => hfe (by omega) w ?_) (fun j w hj => ?_) ?_
          · rw [if_neg (Ne.symm hie)] at hw; exact hw
          · rw [if_neg (by omega)]
            exact hlt j w (by omega)
          · refine hinv.put hsz hod (fun j w hne hw => ?_) (fun _ => ⟨rfl, rfl, fun w hw => by simpa using hw⟩) (fun h => absurd h hie)
            by_cases hji : j = i
            · subst hji; exact hlt j w (Nat.le_refl _)
            · rw [if_neg hji] at hw; exact hw

theorem awp_drawnE (hm : P.follows .mixedOrders = true) {id : Nat} {l : List Oper} {Q : Exit → St → Prop} (e m : Nat) (om om' : AObj) (cs : List AV) (hB : relB l cs.length st.n = true) (he : Nat.ble (e + 1) cs.length = true) (hom : lookO st.heap m = some om)
    (h : headE P l.toArray Q st e m om om' cs 0 l []) : awp P (.region id l.toArray true) st Q := by
  intro F S0 N0 ψ S a w hs
  have hs1 : Sim F S0 N0 st ψ S a w.drew := ⟨hs.defers, hs.size, fun t => (hs.tmps t).keep Ext.refl (fun _ h => h) (fun _ h => h) (fun _ _ _ => rfl), ⟨fun id ob ho => ?_, hs.core.inj, hs.core.lt, hs.core.s0, hs.core.n0, hs.core.fr⟩⟩
  · refine wp_mono ?_ fun e a' w' (k : PostA F S0 N0 w.drew Q e a' w') => k.pre Fr.drew
    obtain ⟨hid, hobm, hfrm⟩ := hs1.core.obj m om hom
    let M : Nat → Prop := fun b => Blk (ψ.val m) b
    let SN : Nat → Prop := fun b => S b ∨ w.drew.heap.size ≤ b
    have hSM : ∀ {w1 w2 : World}, RE.Tr M w.drew w1 → RE.Tr M w1 w2 → Same SN w1 w2 := fun {w1 w2} _ ht b hb hl => ht.block b hl fun hm => by
      rcases hb with hb | hb
      · exact (hfrm b hm).1 hb
      · have := hobm.lt hm; omega
    have hSM' : ∀ {w1 w2 : World}, RE.Tr M w1 w2 → Same SN w1 w2 := fun {w1 w2} ht b hb hl => ht.block b hl fun hm => by
      rcases hb with hb | hb
      · exact (hfrm b hm).1 hb
      · have := hobm.lt hm; omega
    let mk : AV → RE.Gd M := fun c => .rel (GnE ψ st.ids SN c) fun v w1 w2 hv ht => hv.keep Ext.refl (fun _ h => h) (fun _ h => h) (hSM' ht)
    let mkE : AV → RE.Gd M := fun c => .relE (GeE F S0 N0 ψ st.ids S SN w.drew.heap.size m om' c) fun v w1 w2 hv hg => hv.keep hg
    refine RE.wp_region_rel e (M := M) (fun w' => Below w.drew.heap.size w.drew w') (RE.Tr M w.drew) hm RE.Tr.refl (grow_refl _) (fun _ _ h k => h.trans k) (fun a b h k => Below.step h k) ⟨gsE mk mkE e cs 0, fun j g hj hg => ?_, ?_, ?_⟩
    · have := gsE_e (mk := mk) (mkE := mkE) (fun c => rfl) cs 0 j g hj hg
      omega
    · exact head_relE hs1 hom rfl rfl mk mkE (fun c => ⟨_, rfl⟩) (fun c => ⟨_, rfl⟩) cs 0 l [] a (fun _ _ => True) .any undef h hs.defers hs.size
        (fun k o d hk ho hd => (relB_ok hB).dst k o d hk ho hd) (by have := Nat.le_of_ble_eq_true he; omega) (fun h => by omega) (fun _ _ _ => trivial) (fun p g R w _ _ _ _ _ hb t => hb t)
    · rw [gsE_len, hs.size]; exact hB
  · obtain ⟨e1, e2, e3⟩ := hs.core.obj id ob ho
    exact ⟨e1, e2.keep Ext.refl (fun _ h => h) (fun _ h => h) (fun _ _ _ => rfl) ⟨rfl, rfl⟩ (fun _ _ => rfl), e3⟩

/-- a row that is not changed any more, in all slots that hold it -/
def rowsAt (st : St) (id n : Nat) : List Nat → Prop
  | [] => True
  | t :: ts => st.get t = .row id n ∧ rowsAt st id n ts
def addTs (x : AV) (base : List (Nat × AV)) : List Nat → List (Nat × AV)
  | [] => base
  | t :: ts => (t, x) :: addTs x base ts
theorem le_freezeTs {id n : Nat} {e : TypeId} {size : Nat} {xs : List FV} (ts : List Nat) (hx : rowsAt st id n ts) (hob : lookO st.heap id = some (.frow e size xs)) (hn : n = xs.length) :
    LeSt st { st with tmps := addTs (.fz (.lst size n xs)) st.tmps ts, heap := dropO id st.heap } := by
  subst hn
  intro F S0 N0 ψ S a w hs
  obtain ⟨c1, c2⟩ := core_freeze hs.core hob
  have hold : ∀ k, RV ψ (· ∈ st.ids) (fun b => S b ∨ blkOf (ψ.val id) = some b) w (a.tmps.getD k undef) (st.get k) := fun k => (hs.tmps k).mono (fun _ h => h) fun _ h => .inl h
  have h0 := (hs.core.obj id _ hob).2.1.1
  refine ⟨ψ, _, hs.defers, hs.size, fun k => ?_, c1⟩
  show RV ψ (· ∈ st.ids) _ w (a.tmps.getD k undef) (look .any (addTs (.fz (.lst size xs.length xs)) st.tmps ts) k)
  induction ts with
  | nil => exact hold k
  | cons t ts ih =>
    simp only [addTs, look_cons]
    split
    · rename_i hk
      subst hk
      have hv := hold t
      rw [hx.1] at hv
      refine .fz ?_
      generalize a.tmps.getD t undef = u at hv
      cases hv with
      | row hK hn' h1 hv => rw [hv (by rw [h0])]; exact c2
    · exact ih hx.2

theorem nstep_co {st' : St} {ids : List Nat} {ts : List (Nat × C1)} {c : AV} (h : coSt st ids ts [] = some st') (hn : NStep P o st' c) : NStep P o st c := by
  unfold coSt at h
  cases hi : ids.all st.ids.contains with
  | false => rw [hi] at h; simp at h
  | true =>
    cases h1 : coTmps st ids ts with
    | none => rw [hi, h1] at h; simp at h
    | some r =>
      rw [hi, h1] at h
      simp only [coObjs, Option.some.injEq] at h
      subst h
      have hin : ∀ id, id ∈ ids → id ∈ st.ids := fun id hid => by simpa using List.all_eq_true.1 hi id hid
      intro ψ S a w ht hob
      refine relAt_mono ?_ (hn ψ S a w (fun t => ?_) (fun id ob ho => by cases ho))
      · rintro v w' ⟨k1, k2⟩
        exact ⟨k1, k2.mono hin fun _ h => h⟩
      · show RV ψ (· ∈ ids) S w _ (look .any r t)
        rcases coTmps_get t h1 with h' | ⟨c', h', hok⟩
        · rw [h']; exact .any
        · rw [h']
          rw [h'] at *
          exact (co1_ok (ht t)).sub1 hok

theorem own_lst {e : TypeId} {size : Nat} {xs : List FV} {v : Value} {cs : List Value} (hsz : 0 < size) (hown : w.ownsRow 0 e size v xs.length cs) (hel : ElR size xs) (hr : RowR S w size xs cs) : RF (fun b => S b ∨ blkOf v = some b) w v (.lst size xs.length xs) := by
  rcases hown.2 with ⟨hv, hx0⟩ | ⟨g, cap, cur, hv, _, hh, hnc, hcm, hcs, htk⟩
  · have : xs = [] := List.eq_nil_of_length_eq_zero hx0
    subst this
    rw [hv]
    exact .lst (A := none) (cap := 0) (xs := []) (fun _ => []) rfl (Nat.le_refl _) (by omega) hsz (fun i x hx => by simp at hx) (fun i x hx => by simp at hx) (fun i x j v y hx => by simp at hx)
  · rw [hv]
    have hlen : ∀ i x, xs[i]? = some x → (i + 1) * size ≤ cs.length := fun i x hx => by
      rw [hown.1]; exact Nat.mul_le_mul_right _ (List.getElem?_eq_some_iff.1 hx).1
    refine .lst (fun i => (cs.drop (i * size)).take size) rfl hnc (by unfold maxLen at hcm; exact hcm) hsz (fun i x hx => ⟨g, 0, rfl, .inr (by rfl), fun j u hu => ?_⟩) (fun i x hx => ?_) fun i x j v y hx hv' hy => ?_
    · rw [List.getElem?_take] at hu
      split at hu
      · rw [List.getElem?_drop, ← htk, List.getElem?_take] at hu
        split at hu
        · simp only [World.cell?, hh, Nat.zero_add]
          simpa using hu
        · cases hu
      · cases hu
    · have := hlen i x hx
      rw [Nat.add_mul] at this
      exact ⟨by rw [List.length_take, List.length_drop]; omega, hel x (List.mem_of_getElem? hx)⟩
    · rw [List.getElem?_take] at hv'
      split at hv'
      · rw [List.getElem?_drop] at hv'
        exact (hr i x j v y hx hv' hy).mono fun _ h => .inl h
      · cases hv'
theorem s_clone {α : Type} {enc : α → FV} {bytes : Nat} {ys r : List α} {X Y : Operand} {e : TypeId} {de : TD} {m : Nat} (h : app bytes [] ys = some r) (hT : TOk P T) (ho : o.op = .call { callee := .builtin .append, args := #[X, Y], argTypes := #[t, t] }) (hd : lookT T t = some d) (hk : d.kind = .slice e) (hde : lookT T e = some de)
    (hz : Nat.ble 1 de.size = true) (hzl : de.zero.length = de.size) (hby : de.bytes = bytes) (hx : st.eval X = .fz (.atom (.slice none 0 0))) (hy : st.eval Y = .fz (.lst de.size m (ys.map enc)) ∨ st.eval Y = .lim de.size m (ys.map enc)) :
    NStep P o st (.fz (eL de.size enc r)) := by
  obtain ⟨hr0, hlen⟩ := app_some h
  have hr1 : ys = r := by simpa using hr0.symm
  subst hr1
  subst hby
  intro ψ S a w ht hO
  have hv := Sim.eval_tmps ht X
  rw [hx] at hv
  have hvx := hv.atom
  have hvy : RF S w (a.eval Y) (.lst de.size m (ys.map enc)) := by
    have hv := Sim.eval_tmps ht Y
    rcases hy with hy | hy
    · rw [hy] at hv; exact hv.inv
    · rw [hy] at hv
      generalize a.eval Y = u at hv
      cases hv with
      | lim h => exact h
  have hlen' : (0 + (ys.map enc).length) * de.bytes + (0 + (ys.map enc).length) ≤ 140737488355328 := by
    rw [Nat.mul_add, Nat.mul_one] at hlen; simpa using hlen
  have hsz := Nat.le_of_ble_eq_true hz
  obtain ⟨v', w', news, hrun, hown', hgrow, hob', hnl, hnr, hnel, hnil⟩ := run_app (ty := o.type) (n := 0) (cs := []) (v := .slice none 0 0) ((hT.get hd).slice hk) (hT.get hde) hsz hzl ⟨by simp, .inl ⟨rfl, rfl⟩⟩ hvy (by omega) (by omega)
  have hgr : Grow w w' := ⟨hgrow.os, hgrow.tape, hgrow.output, hgrow.size, fun k hk => hgrow.block k hk fun e => by cases e⟩
  rw [Nat.zero_add, List.nil_append] at hown'
  have hf := own_lst (S := S) hsz hown' hnel (fun i x j v y h1 h2 h3 => (hnr i x j v y h1 h2 h3).keep (Same.of_grow hgr))
  refine relAt_ok (w' := w') (v := v') ?_ ⟨hgr, .fz ?_⟩
  · simp only [execOp, ho, resolve, invoke, builtin, Sem.run_bind, Sem.run_pure, Result.andThen_ok, List.map_toArray, List.map_cons, List.map_nil, hvx, hrun]
  · have hq : eL de.size enc ys = .lst de.size (ys.map enc).length (ys.map enc) := by simp [eL]
    rw [hq]
    refine hf.mono fun b hb => hb.elim .inl fun hb => .inr ?_
    rw [blk_own hown'] at hb
    rcases hob' with h | h
    · rw [h] at hb; cases hb
    · rw [h] at hb; injection hb with hb; omega

/-- internal/bytealg.IndexByteString, for which the model stands in -/
theorem s_idxByte {f : FuncId} {fn : Func} {ts : Array TypeId} {X Y : Operand} {s : ByteArray} {c : Int} (ho : o.op = .call { callee := .value (.func f), args := #[X, Y], argTypes := ts }) (hf : P.funcs[f]? = some fn)
    (hname : (fn.name == "runtime.NumGoroutine") = false) (hb : fn.body.isNone = true) (hn : Extern.findNext fn = none) (he : Extern.find fn = some Extern.BytealgIndexByte.indexByte)
    (hx : st.eval X = .fz (eS s)) (hy : st.eval Y = .fz (eU8 c)) : NStep P o st (.fz (eI (Lib.indexByte s.data.toList c.toNat.toUInt8))) := by
  intro ψ S a w ht hO
  have h1 := Sim.eval_tmps ht X
  rw [hx] at h1
  have h1 := h1.atom
  have h2 := Sim.eval_tmps ht Y
  rw [hy] at h2
  have h2 := h2.atom
  refine relAt_ok (w' := w) (v := .int .i64 (Lib.indexByte s.data.toList c.toNat.toUInt8)) ?_ ⟨grow_refl _, .fz (.atom rfl)⟩
  have h0 : a.eval (.func f) = .func (.func f) #[] #[] := rfl
  simp [execOp, ho, resolve, h0, Deferred.ofValue, invoke, run_callFunc_extern hf hname hb hn he, h1, h2, Lib.run_indexByteString]
end
end Go.Proofs.Ytpcfkflhnkfjjaa
