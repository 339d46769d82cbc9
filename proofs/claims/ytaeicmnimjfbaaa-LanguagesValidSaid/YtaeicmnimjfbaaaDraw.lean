/- Regions that draw their order: computed in the order of the text. -/
import Derived.Test.YtaeicmnimjfbaaaCall
set_option linter.unusedVariables false
set_option linter.unusedSimpArgs false
namespace Go.Proofs.Ytaeicmnimjfbaaa
open Go Go.RowKit

def hadd (fs : List (Nat × Option Nat × AV)) (p : Nat → Bool) (base : List (Nat × AV)) : List (Nat × AV) := match fs with
  | [] => base
  | (j, some d, c) :: l => (d, bif p j then c else .any) :: hadd l p base
  | (_, none, _) :: l => hadd l p base
def hst (st : St) (fs : List (Nat × Option Nat × AV)) (p : Nat → Bool) : St := { st with tmps := hadd fs p st.tmps }
/-- the operations of a head, each in a state in which what it comes after is known -/
def headL (P : Program) (ops : Array Oper) (Q : Exit → St → Prop) (st : St) : List AV → Nat → List Oper → List (Nat × Option Nat × AV) → Prop
  | [], _, l, fs => awpL P ops l (hst st fs fun _ => true) Q
  | c :: cs, i, o :: l, fs => ((guardA ops (hst st fs (afterB o)) o = some true ∧ NStep P o (hst st fs (afterB o)) c) ∨ (guardA ops (hst st fs (afterB o)) o = some false ∧ c = .fz (.tup []))) ∧ headL P ops Q st cs (i + 1) l ((i, o.dst, c) :: fs)
  | _ :: _, _, [], _ => False

section
variable {P : Program} {F S0 : Nat → Prop} {N0 : Nat} {w w' : World} {S S' : Nat → Prop} {ψ : Env} {K : Nat → Prop} {o : Oper} {a : Act} {st : St}

theorem wanted_of' {ops : Array Oper} {g : Bool} (hs : ∀ t, RV ψ K S w (a.tmps.getD t undef) (st.get t)) (h : guardA ops st o = some g) : Region.wanted o (yielded ops a.tmps) = g := by
  unfold guardA at h
  unfold Region.wanted
  split at h
  · rename_i hg
    rw [hg]; injection h
  · rename_i j want hg
    rw [hg]
    split at h
    · rename_i t ht
      have hv := hs t
      split at h
      · rename_i b hb
        rw [hb] at hv
        injection h with h
        subst h
        have hu : a.tmps.getD t undef = .bool b := hv.atom
        rw [Array.getD_eq_getD_getElem?] at hu
        have hq : a.tmps[t]? = some (.bool b) := by
          cases hq : a.tmps[t]? with
          | none => rw [hq] at hu; cases hu
          | some u => rw [hq] at hu; simp only [Option.getD_some] at hu; rw [hu]
        simp only [yielded, ht, Option.bind_some, hq]
        cases b <;> cases want <;> rfl
      · rename_i xs hb
        rw [hb] at hv
        injection h with h
        subst h
        exact yielded_tup hv.inv ht
      · cases h
    · cases h

/-- what the frame of the walk in the order of the text has to do with the values so far -/
def HInv (ψ : Env) (K : Nat → Prop) (S : Nat → Prop) (a0 a : Act) (fs : List (Nat × Option Nat × AV)) (facts : Nat → World → Prop) (p : Nat → Bool) (base : List (Nat × AV)) (w : World) : Prop :=
  (∀ j, p j = true → facts j w) → (∀ t, RV ψ K S w (a0.tmps.getD t undef) (look .any base t)) → ∀ t, RV ψ K S w (a.tmps.getD t undef) (look .any (hadd fs p base) t)

theorem getD_put {a : Act} {d : Option Nat} {v : Value} {n t : Nat} (hn : a.tmps.size = n) (hd : ∀ t, d = some t → t < n) : (a.put d v).tmps.getD t undef = if d = some t then v else a.tmps.getD t undef := by
  cases d with
  | none => simp [Act.put]
  | some d =>
    have hlt := hd d rfl
    by_cases h : d = t
    · subst h
      simp [Act.put, hn, hlt]
    · rw [if_neg (by simpa using h)]
      simp only [Act.put]
      rw [Array.getD_eq_getD_getElem?, Array.getElem?_setIfInBounds_ne h, ← Array.getD_eq_getD_getElem?]

theorem head_rel {ops : Array Oper} {Q : Exit → St → Prop} {a0 : Act} {w0 : World} (hsim : Sim F S0 N0 st ψ S a0 w0) (gs : AV → Gd) (hgs : ∀ c, ∃ hG, gs c = .rel (fun v w => RV ψ (· ∈ st.ids) (fun b => S b ∨ w0.heap.size ≤ b) w v c) hG) :
    ∀ (cs : List AV) (i : Nat) (l : List Oper) (fs : List (Nat × Option Nat × AV)) (a : Act) (facts : Nat → World → Prop), headL P ops Q st cs i l fs → a.defers = st.dfr → a.tmps.size = st.n → (∀ k o d, k < cs.length → l[k]? = some o → o.dst = some d → d < st.n) →
      (∀ j w, i ≤ j → facts j w) →
      (∀ p w, Grow w0 w → HInv ψ (· ∈ st.ids) (fun b => S b ∨ w0.heap.size ≤ b) a0 a fs facts p st.tmps w) →
      wpRel P ops (fun w => Grow w0 w) (PostA F S0 N0 w0 Q) (cs.map gs) i l a facts
  | [], i, l, fs, a, facts, h, hd, hsz, _, _, hinv => by
    show ∀ w, Grow w0 w → (∀ j, facts j w) → wpList P ops (PostA F S0 N0 w0 Q) l a w
    intro w hg hf
    have hbase : ∀ t, RV ψ (· ∈ st.ids) (fun b => S b ∨ w0.heap.size ≤ b) w (a0.tmps.getD t undef) (look .any st.tmps t) := fun t => ((hsim.tmps t).keep Ext.refl (fun _ h => h) (fun _ h => .inl h) (Same.of_grow hg))
    have hs : Sim F S0 N0 (hst st fs fun _ => true) ψ (fun b => (S b ∨ w0.heap.size ≤ b) ∧ b < w.heap.size) a w :=
      ⟨hd, hsz, fun t => (hinv (fun _ => true) w hg (fun j _ => hf j) hbase t).bound, hsim.core.grow hg⟩
    exact wpList_mono (fun e a' w' k => k.pre (Fr.of_grow hsim.core.fr hg)) _ _ _ (h F S0 N0 ψ _ a w hs)
  | c :: cs, i, [], fs, a, facts, h, _, _, _, _, _ => h.elim
  | c :: cs, i, o :: l, fs, a, facts, h, hd, hsz, hdst, hlt, hinv => by
    obtain ⟨h1, h2⟩ := h
    obtain ⟨hG, hgc⟩ := hgs c
    have hod : ∀ t, o.dst = some t → t < st.n := fun t ht => hdst 0 o t (by simp) rfl ht
    have hd' : ∀ v, (a.put o.dst v).defers = st.dfr := fun v => by rw [put_defers']; exact hd
    have hsz' : ∀ v, (a.put o.dst v).tmps.size = st.n := fun v => by rw [put_size]; exact hsz
    simp only [List.map_cons, hgc]
    refine ⟨fun w hg hf => ?_, fun v => ?_⟩
    · have hbase : ∀ t, RV ψ (· ∈ st.ids) (fun b => S b ∨ w0.heap.size ≤ b) w (a0.tmps.getD t undef) (look .any st.tmps t) := fun t => ((hsim.tmps t).keep Ext.refl (fun _ h => h) (fun _ h => .inl h) (Same.of_grow hg))
      have htm := hinv (afterB o) w hg hf hbase
      rcases h1 with ⟨hg1, hn⟩ | ⟨hg1, rfl⟩
      · rw [if_pos (wanted_of' (st := hst st fs (afterB o)) htm hg1)]
        refine relAt_mono ?_ (hn ψ _ a w htm fun id ob ho => ?_)
        · rintro u w' ⟨k1, k2⟩
          refine ⟨k1, ?_⟩
          exact k2.mono (fun _ h => h) fun b hb => hb.elim (fun h => h) fun h => .inr (Nat.le_trans hg.size h)
        · obtain ⟨e1, e2, e3⟩ := hsim.core.obj id ob ho
          exact e2.keep Ext.refl (fun _ h => h) (fun _ h => .inl h) (Same.of_grow hg) ⟨rfl, rfl⟩ fun b hb => hg.block b (e2.lt hb)
      · have hw := wanted_of' (st := hst st fs (afterB o)) htm hg1
        rw [if_neg (by rw [hw]; simp)]
        exact .fz RF.undef
    · refine head_rel hsim gs hgs cs (i + 1) l _ _ _ h2 (hd' v) (hsz' v) (fun k o' d hk ho hd => hdst (k + 1) o' d (by simp; omega) (by simpa using ho) hd) (fun j w hj => ?_) fun p w hg hf hbase t => ?_
      · rw [if_neg (by omega)]
        exact hlt j w (by omega)
      · have old := hinv p w hg (fun j hj => ?_) hbase t
        · rw [getD_put hsz hod]
          cases hdd : o.dst with
          | none =>
            simp only [hadd]
            rw [if_neg (by simp)]
            exact old
          | some d =>
            simp only [hadd, look_cons]
            by_cases hdt : d = t
            · subst hdt
              rw [if_pos rfl, if_pos rfl]
              cases hp : p i with
              | false => exact .any
              | true =>
                have := hf i hp
                simp only [if_true] at this
                exact this
            · rw [if_neg (by simpa using hdt), if_neg hdt]
              exact old
        · have := hf j hj
          by_cases hji : j = i
          · subst hji; exact hlt j w (Nat.le_refl _)
          · simp only [if_neg hji] at this
            exact this
theorem awp_drawn (hm : P.follows .mixedOrders = true) {id : Nat} {l : List Oper} {Q : Exit → St → Prop} (cs : List AV) (hB : relB l cs.length st.n = true) (h : headL P l.toArray Q st cs 0 l []) : awp P (.region id l.toArray true) st Q := by
  intro F S0 N0 ψ S a w hs
  have hs1 : Sim F S0 N0 st ψ S a w.drew := ⟨hs.defers, hs.size, fun t => (hs.tmps t).keep Ext.refl (fun _ h => h) (fun _ h => h) (fun _ _ _ => rfl), ⟨fun id ob ho => ?_, hs.core.inj, hs.core.lt, hs.core.s0, hs.core.n0, hs.core.fr⟩⟩
  · refine wp_mono ?_ fun e a' w' (k : PostA F S0 N0 w.drew Q e a' w') => k.pre Fr.drew
    refine wp_region_rel (fun w' => Grow w.drew w') hm (grow_refl _) (fun a b h k => Below.step h k) ⟨cs.map fun c => .rel (fun v w' => RV ψ (· ∈ st.ids) (fun b => S b ∨ w.drew.heap.size ≤ b) w' v c) fun v w1 w2 hv hg => hv.keep Ext.refl (fun _ h => h) (fun _ h => h) (Same.of_grow hg), ?_, ?_⟩
    · have := head_rel (Q := Q) hs1 (fun c => .rel (fun v w' => RV ψ (· ∈ st.ids) (fun b => S b ∨ w.drew.heap.size ≤ b) w' v c) fun v w1 w2 hv hg => hv.keep Ext.refl (fun _ h => h) (fun _ h => h) (Same.of_grow hg)) (fun c => ⟨_, rfl⟩) cs 0 l [] a (fun _ _ => True) h hs.defers hs.size
        (fun k o d hk ho hd => (relB_ok hB).dst k o d hk ho hd) (fun j w _ => trivial) (fun p w' hg hf hbase t => hbase t)
      exact this
    · rw [List.length_map, hs.size]; exact hB
  · obtain ⟨e1, e2, e3⟩ := hs.core.obj id ob ho
    exact ⟨e1, e2.keep Ext.refl (fun _ h => h) (fun _ h => h) (fun _ _ _ => rfl) ⟨rfl, rfl⟩ (fun _ _ => rfl), e3⟩
end
end Go.Proofs.Ytaeicmnimjfbaaa
