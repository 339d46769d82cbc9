/- Regions that draw their order, walked once in the order of the text: each operation is shown, in every later world, to yield one value or a value with a property that growth keeps. -/
import Derived.WalkKit
import Derived.WalkSpells
import Derived.WalkLawsBesides
import Derived.Lib.Hide
import Derived.KernelRfl
set_option linter.unusedVariables false
set_option linter.unusedSimpArgs false
namespace Go.Proofs.Ytpcfkflhnkfjjaa
open Go Go.RowKit

/-- what is known of an operation's value: it is this one, or it has a property that growth keeps -/
inductive Gd where
  | det (c : Value)
  | rel (G : Value → World → Prop) (h : ∀ v w w', G v w → Below w.heap.size w w' → G v w')

def Gd.holds : Gd → Value → World → Prop
  | .det c, v, _ => v = c
  | .rel G _, v, w => G v w
def Gd.val : Gd → Value → Value
  | .det c, _ => c
  | .rel _ _, v => v

theorem Gd.val_of {g : Gd} {v : Value} {w : World} (h : g.holds v w) : g.val v = v := by
  cases g with
  | det c => exact h.symm
  | rel G hG => rfl
theorem Gd.keep {g : Gd} {v : Value} {w w' : World} (h : g.holds v w) (hb : Below w.heap.size w w') : g.holds v w' := by
  cases g with
  | det c => exact h
  | rel G hG => exact hG v w w' h hb

def StepOk (g : Gd) (w : World) (v : Value) (w' : World) : Prop := Below w.heap.size w w' ∧ g.holds v w'
def RetBy (R : Value → World → Prop) (e : Ending) (w : World) : Prop := ∃ u, e = .returned u ∧ R u w

def relUpon (P : Program) (R : Value → World → Prop) : Result Next → Prop
  | .ok (.value u) w' => R u w'
  | .ok .skip w' => R undef w'
  | .ok (.enter f args) w' => Calls P f args w' (RetBy R)
  | _ => False
def relAt (P : Program) (o : Oper) (a : Act) (w : World) (R : Value → World → Prop) : Prop := relUpon P R ((execOp a.eval o).run P w)

def afterB (o : Oper) (j : Nat) : Bool := o.after.toList.any fun e => e.on == j && Region.binds .any e

def wpRel (P : Program) (ops : Array Oper) (C : World → Prop) (Q : Exit → Act → World → Prop) : List Gd → Nat → List Oper → Act → (Nat → World → Prop) → Prop
  | [], _, l, a, facts => ∀ w, C w → (∀ j, facts j w) → wpList P ops Q l a w
  | g :: gs, i, o :: l, a, facts =>
    (∀ w, C w → (∀ j, afterB o j = true → facts j w) → if Region.wanted o (yielded ops a.tmps) then relAt P o a w (StepOk g w) else g.holds undef w) ∧
    (match g with
      | .det c => wpRel P ops C Q gs (i + 1) l (a.put o.dst c) facts
      | .rel G _ => ∀ v, wpRel P ops C Q gs (i + 1) l (a.put o.dst v) (fun j w => if j = i then G v w else facts j w))
  | _ :: _, _, [], _, _ => False

/-- for each operation, the set of those that come before it, as bits -/
def masks (l : List Oper) : Array Nat :=
  l.foldl (fun acc o => acc.push (o.after.toList.foldl (fun s e => if Region.binds .any e then s ||| 2 ^ e.on ||| acc.getD e.on 0 else s) 0)) #[]

def relB (l : List Oper) (n s : Nat) : Bool :=
  let m := masks l
  Region.noSelect l.toArray && decide (n ≤ l.length) &&
  (l.zipIdx.all fun (o, k) => o.after.toList.all fun e => !Region.binds .any e || decide (e.on < k)) &&
  ((l.take n).all fun o => match o.dst with | some d => decide (d < s) | none => true) &&
  ((l.take n).zipIdx.all fun (o, i) => (l.take n).zipIdx.all fun (p, j) => i == j || o.dst.isNone || o.dst != p.dst) &&
  ((l.take n).zipIdx.all fun (o, i) => (o.looksAt l.toArray).all fun t => (l.take n).zipIdx.all fun (p, j) => i == j || p.dst != some t || afterB o j || afterB p i) &&
  (l.zipIdx.all fun (_, k) => decide (k < n) || (List.range k).all fun j => (m.getD k 0).testBit j)

section
variable {P : Program}

theorem relAt_mono {o : Oper} {a : Act} {w : World} {R R' : Value → World → Prop} (h : ∀ v w', R v w' → R' v w') (hh : relAt P o a w R) : relAt P o a w R' := by
  unfold relAt at *
  generalize (execOp a.eval o).run P w = r at *
  cases r with
  | ok n w' =>
    cases n <;> simp only [relUpon] at hh ⊢
    case enter f args => exact hh.mono fun e w'' ⟨u, he, hu⟩ => ⟨u, he, h _ _ hu⟩
    all_goals exact h _ _ hh
  | halt x w' => simp only [relUpon] at hh

theorem wp_of_relAt {o : Oper} {a : Act} {w : World} {R : Value → World → Prop} {K : Act → World → Prop} {Q : Exit → Act → World → Prop}
    (h : ∀ v w', R v w' → K (a.put o.dst v) w') (hh : relAt P o a w R) : o.wp P a w K Q := by
  unfold relAt at hh
  unfold Oper.wp
  generalize (execOp a.eval o).run P w = r at *
  cases r with
  | ok n w' =>
    cases n <;> simp only [relUpon] at hh <;> simp only [Oper.upon]
    case enter f args => exact hh.mono fun e w'' ⟨u, he, hu⟩ => by subst he; exact h _ _ hu
    all_goals exact h _ _ hh
  | halt x w' => simp only [relUpon] at hh

/-- the bits of the set: soundness -/
def Good (l : List Oper) (acc : Array Nat) : Prop :=
  acc.size = l.length ∧ ∀ k o, l[k]? = some o → ∀ j, (acc.getD k 0).testBit j = true →
    ∃ e ∈ o.after, Region.binds .any e = true ∧ (e.on = j ∨ (e.on < k ∧ (acc.getD e.on 0).testBit j = true))

theorem fold_bits (acc : Array Nat) (j : Nat) : ∀ (es : List Edge) (s : Nat),
    (es.foldl (fun s e => if Region.binds .any e then s ||| 2 ^ e.on ||| acc.getD e.on 0 else s) s).testBit j = true →
    s.testBit j = true ∨ ∃ e ∈ es, Region.binds .any e = true ∧ (e.on = j ∨ (acc.getD e.on 0).testBit j = true)
  | [], s, h => .inl h
  | e :: es, s, h => by
    simp only [List.foldl_cons] at h
    rcases fold_bits acc j es _ h with h | ⟨e', he', hb, h⟩
    · by_cases hb : Region.binds .any e = true
      · rw [if_pos hb, Nat.testBit_or, Nat.testBit_or, Bool.or_eq_true, Bool.or_eq_true] at h
        rcases h with (h | h) | h
        · exact .inl h
        · rw [Nat.testBit_two_pow] at h
          exact .inr ⟨e, by simp, hb, .inl (by simpa using h)⟩
        · exact .inr ⟨e, by simp, hb, .inr h⟩
      · rw [if_neg hb] at h
        exact .inl h
    · exact .inr ⟨e', List.mem_cons_of_mem _ he', hb, h⟩

theorem good_push {l : List Oper} {acc : Array Nat} (h : Good l acc) (o : Oper) :
    Good (l ++ [o]) (acc.push (o.after.toList.foldl (fun s e => if Region.binds .any e then s ||| 2 ^ e.on ||| acc.getD e.on 0 else s) 0)) := by
  obtain ⟨hs, hg⟩ := h
  refine ⟨by simp [hs], fun k p hk j hj => ?_⟩
  have old : ∀ i, i < acc.size → ∀ x, (acc.push x).getD i 0 = acc.getD i 0 := fun i hi x => by
    simp [Array.getElem?_push, Nat.ne_of_lt hi]
  by_cases hkl : k < l.length
  · rw [List.getElem?_append_left hkl] at hk
    rw [old k (by omega)] at hj
    obtain ⟨e, he, hb, h⟩ := hg k p hk j hj
    refine ⟨e, he, hb, h.imp id fun ⟨h1, h2⟩ => ⟨h1, ?_⟩⟩
    rw [old _ (by omega)]
    exact h2
  · have hkeq : k = l.length := by
      have := (List.getElem?_eq_some_iff.1 hk).1
      simp at this
      omega
    subst hkeq
    simp at hk
    subst hk
    have hget : ∀ x, (acc.push x).getD l.length 0 = x := fun x => by rw [← hs]; simp
    rw [hget] at hj
    rcases fold_bits acc j _ 0 hj with h | ⟨e, he, hb, h⟩
    · simp at h
    · refine ⟨e, by simpa using he, hb, ?_⟩
      rcases h with h | h
      · exact .inl h
      · have hlt : e.on < acc.size := by
          rcases Nat.lt_or_ge e.on acc.size with h' | h'
          · exact h'
          · simp [Array.getElem?_eq_none h'] at h
        exact .inr ⟨by omega, by rw [old _ hlt]; exact h⟩

theorem good_fold : ∀ (l r : List Oper) (acc : Array Nat), Good r acc →
    Good (r ++ l) (l.foldl (fun acc o => acc.push (o.after.toList.foldl (fun s e => if Region.binds .any e then s ||| 2 ^ e.on ||| acc.getD e.on 0 else s) 0)) acc)
  | [], r, acc, h => by simpa using h
  | o :: l, r, acc, h => by
    have := good_fold l (r ++ [o]) _ (good_push h o)
    simpa using this

theorem good_masks (l : List Oper) : Good l (masks l) := by
  exact good_fold l [] #[] ⟨rfl, fun k o h => by simp at h⟩

/-- a set that is closed under 'comes before' holds all that the bits name -/
theorem masks_closed {l : List Oper} {S : Nat → Prop} (hS : ∀ k o, S k → l[k]? = some o → ∀ e ∈ o.after, Region.binds .any e = true → S e.on) :
    ∀ (k : Nat) (o : Oper), l[k]? = some o → (∀ e ∈ o.after, Region.binds .any e = true → S e.on) → ∀ j, ((masks l).getD k 0).testBit j = true → S j := by
  intro k
  induction k using Nat.strongRecOn with
  | _ k ih =>
    intro o ho hall j hj
    obtain ⟨e, he, hb, h⟩ := (good_masks l).2 k o ho j hj
    rcases h with rfl | ⟨hlt, h⟩
    · exact hall e he hb
    · have hk : k < l.length := (List.getElem?_eq_some_iff.1 ho).1
      have hon : l[e.on]? = some (l[e.on]'(by omega)) := List.getElem?_eq_getElem (by omega)
      exact ih e.on hlt _ hon (fun e' he' hb' => hS e.on _ (hall e he hb) hon e' he' hb') j h

/-- the frame of the lexical walk -/
def lexA (gs : List Gd) (l : List Oper) (xs : Nat → Value) (a0 : Act) : Nat → Act
  | 0 => a0
  | k + 1 => (lexA gs l xs a0 k).put ((l[k]?).bind (·.dst)) ((gs.getD k (.det undef)).val (xs k))

theorem put_size (a : Act) (d : Option Tmp) (v : Value) : (a.put d v).tmps.size = a.tmps.size := by
  cases d <;> simp [Act.put]
theorem put_defers' (a : Act) (d : Option Tmp) (v : Value) : (a.put d v).defers = a.defers := by
  cases d <;> rfl
theorem put_other (a : Act) (d : Option Tmp) (v : Value) (t : Nat) (h : d ≠ some t) : (a.put d v).tmps[t]? = a.tmps[t]? := by
  cases d with
  | none => rfl
  | some d => simp only [Act.put]; rw [Array.getElem?_setIfInBounds_ne (fun e => h (by rw [e]))]
theorem put_same (a : Act) (d : Nat) (v : Value) (h : d < a.tmps.size) : (a.put (some d) v).tmps[d]? = some v := by
  simp [Act.put, h]

variable {gs : List Gd} {l : List Oper} {xs : Nat → Value} {a0 : Act}

theorem lexA_size (k : Nat) : (lexA gs l xs a0 k).tmps.size = a0.tmps.size := by
  induction k with
  | zero => rfl
  | succ k ih => rw [lexA, put_size, ih]
theorem lexA_defers (k : Nat) : (lexA gs l xs a0 k).defers = a0.defers := by
  induction k with
  | zero => rfl
  | succ k ih => rw [lexA, put_defers', ih]
theorem lexA_other (t : Nat) : ∀ k, (∀ j o, j < k → l[j]? = some o → o.dst ≠ some t) → (lexA gs l xs a0 k).tmps[t]? = a0.tmps[t]?
  | 0, _ => rfl
  | k + 1, h => by
    rw [lexA, put_other, lexA_other t k (fun j o hj => h j o (by omega))]
    intro he
    cases ho : l[k]? with
    | none => simp [ho] at he
    | some o => simp [ho] at he; exact h k o (by omega) ho he
theorem lexA_at {t i : Nat} {oi : Oper} (hi : l[i]? = some oi) (hd : oi.dst = some t) (ht : t < a0.tmps.size) :
    ∀ k, i < k → (∀ j o, j < k → j ≠ i → l[j]? = some o → o.dst ≠ some t) → (lexA gs l xs a0 k).tmps[t]? = some ((gs.getD i (.det undef)).val (xs i))
  | 0, h, _ => by omega
  | k + 1, h, hu => by
    by_cases hik : i = k
    · subst hik
      rw [lexA, hi]
      show ((lexA gs l xs a0 i).put oi.dst _).tmps[t]? = _
      rw [hd, put_same _ _ _ (by rw [lexA_size]; exact ht)]
    · rw [lexA, put_other, lexA_at hi hd ht k (by omega) (fun j o hj => hu j o (by omega))]
      intro he
      cases ho : l[k]? with
      | none => simp [ho] at he
      | some o => simp [ho] at he; exact hu k o (by omega) (by omega) ho he

/-- what the lexical walk gives at operation k, and at the end -/
theorem wpRel_at {ops : Array Oper} {C : World → Prop} {Q : Exit → Act → World → Prop} (hn : gs.length ≤ l.length)
    (h : wpRel P ops C Q gs 0 l a0 (fun _ _ => True)) (xs : Nat → Value) : ∀ k, k ≤ gs.length →
    ∃ facts : Nat → World → Prop, (∀ j w, (∀ g, gs[j]? = some g → j < k → g.holds (xs j) w) → facts j w) ∧
      wpRel P ops C Q (gs.drop k) k (l.drop k) (lexA gs l xs a0 k) facts
  | 0, _ => ⟨fun _ _ => True, fun _ _ _ => trivial, h⟩
  | k + 1, hk => by
    obtain ⟨facts, hf, hw⟩ := wpRel_at hn h xs k (by omega)
    have hg : gs.drop k = gs[k] :: gs.drop (k + 1) := List.drop_eq_getElem_cons (by omega)
    have hl : l.drop k = l[k] :: l.drop (k + 1) := List.drop_eq_getElem_cons (by omega)
    rw [hg, hl] at hw
    have ha : lexA gs l xs a0 (k + 1) = (lexA gs l xs a0 k).put l[k].dst (gs[k].val (xs k)) := by
      rw [lexA, List.getElem?_eq_getElem (by omega)]
      simp [List.getD, List.getElem?_eq_getElem (show k < gs.length by omega)]
    rw [ha]
    have h2 := hw.2
    cases hgk : gs[k] with
    | det c =>
      rw [hgk] at h2
      exact ⟨facts, fun j w hj => hf j w fun g hg' hlt => hj g hg' (by omega), h2⟩
    | rel G hG =>
      rw [hgk] at h2
      refine ⟨_, fun j w hj => ?_, h2 (xs k)⟩
      show if j = k then G (xs k) w else facts j w
      by_cases hjk : j = k
      · rw [if_pos hjk]
        subst hjk
        have := hj gs[j] (List.getElem?_eq_getElem (by omega)) (by omega)
        rw [hgk] at this
        exact this
      · rw [if_neg hjk]
        exact hf j w fun g hg' hlt => hj g hg' (by omega)

theorem unlisted_count {m : Nat} {listed : Array Bool} {i : Nat} (hi : i < m) (hu : listed.getD i true = false) (hs : i < listed.size) :
    ((List.range m).countP fun k => !(listed.setIfInBounds i true).getD k true) < (List.range m).countP fun k => !listed.getD k true := by
  have hsplit : List.range m = List.range i ++ i :: (List.range (m - (i + 1))).map (i + 1 + ·) := by
    rw [show m = i + 1 + (m - (i + 1)) by omega, List.range_add, List.range_succ]
    simp
  have hle : ∀ L : List Nat, (L.countP fun k => !(listed.setIfInBounds i true).getD k true) ≤ L.countP fun k => !listed.getD k true := fun L => by
    refine List.countP_mono_left fun k _ hk => ?_
    by_cases hik : i = k
    · subst hik; simp [hs] at hk
    · rw [getD_set_ne true hik] at hk; exact hk
  rw [hsplit, List.countP_append, List.countP_append, List.countP_cons, List.countP_cons]
  have h1 := hle (List.range i)
  have h2 := hle ((List.range (m - (i + 1))).map (i + 1 + ·))
  have h3 : (listed.setIfInBounds i true).getD i true = true := by simp [hs]
  rw [h3, hu]
  simp only [Bool.not_true, Bool.not_false, if_true, Bool.false_eq_true, if_false]
  omega

structure RelOk (l : List Oper) (n s : Nat) : Prop where
  sel : Region.noSelect l.toArray = true
  len : n ≤ l.length
  edges : ∀ k o, l[k]? = some o → ∀ e ∈ o.after, Region.binds .any e = true → e.on < k
  dst : ∀ i o d, i < n → l[i]? = some o → o.dst = some d → d < s
  uniq : ∀ i j o p d, i < n → j < n → l[i]? = some o → l[j]? = some p → o.dst = some d → p.dst = some d → i = j
  looks : ∀ i j o p t, i < n → j < n → i ≠ j → l[i]? = some o → l[j]? = some p → t ∈ o.looksAt l.toArray → p.dst = some t → afterB o j = true ∨ afterB p i = true
  tail : ∀ k j, k < l.length → n ≤ k → j < k → ((masks l).getD k 0).testBit j = true

theorem relB_ok {l : List Oper} {n s : Nat} (h : relB l n s = true) : RelOk l n s := by
  simp only [relB, Bool.and_eq_true] at h
  obtain ⟨⟨⟨⟨⟨⟨h1, h2⟩, h3⟩, h4⟩, h5⟩, h6⟩, h7⟩ := h
  have h2 : n ≤ l.length := by simpa using h2
  have tk : ∀ i o, i < n → l[i]? = some o → (o, i) ∈ (l.take n).zipIdx := fun i o hi ho => by
    rw [List.mk_mem_zipIdx_iff_getElem?, List.getElem?_take, if_pos hi]; exact ho
  refine ⟨h1, h2, ?_, ?_, ?_, ?_, ?_⟩
  · intro k o ho e he hb
    have := List.all_eq_true.1 h3 (o, k) (by rw [List.mk_mem_zipIdx_iff_getElem?]; exact ho)
    have := List.all_eq_true.1 this e (by simpa using he)
    simpa [hb] using this
  · intro i o d hi ho hd
    have := List.all_eq_true.1 h4 o (List.mem_of_getElem? (i := i) (by rw [List.getElem?_take, if_pos hi]; exact ho))
    simpa [hd] using this
  · intro i j o p d hi hj ho hp hod hpd
    have := List.all_eq_true.1 (List.all_eq_true.1 h5 _ (tk i o hi ho)) _ (tk j p hj hp)
    simpa [hod, hpd] using this
  · intro i j o p t hi hj hne ho hp ht hpd
    have := List.all_eq_true.1 (List.all_eq_true.1 (List.all_eq_true.1 h6 _ (tk i o hi ho)) t ht) _ (tk j p hj hp)
    simpa [hpd, hne] using this
  · intro k j hk hnk hjk
    have := List.all_eq_true.1 h7 (l[k], k) (by rw [List.mk_mem_zipIdx_iff_getElem?]; exact List.getElem?_eq_getElem hk)
    simp only [Bool.or_eq_true, decide_eq_true_eq] at this
    exact List.all_eq_true.1 (this.resolve_left (by omega)) j (by simpa using hjk)

theorem afterB_iff {o : Oper} {j : Nat} : afterB o j = true ↔ ∃ e ∈ o.after, e.on = j ∧ Region.binds .any e = true := by
  unfold afterB
  rw [List.any_eq_true]
  simp

/-- the operations of the tail come one by one -/
theorem wpAny_tail {l : List Oper} {n s : Nat} (ok : RelOk l n s) {Q : Exit → Act → World → Prop} : ∀ (fuel k : Nat) (listed : Array Bool) (a : Act) (w : World),
    n ≤ k → k ≤ l.length → listed.size = l.length → (∀ i, i < l.length → (listed.getD i true = true ↔ i < k)) → l.length - k ≤ fuel →
    wpList P l.toArray Q (l.drop k) a w → wpAny P .any l.toArray Q fuel listed a w := by
  intro fuel
  induction fuel with
  | zero =>
    intro k listed a w hnk hkl hsz hlist hfuel h
    have hk : k = l.length := by omega
    subst hk
    refine ⟨?_, by simpa [wpList] using h⟩
    rw [List.eq_nil_iff_forall_not_mem]
    intro i hi
    obtain ⟨h0, o, ho, _⟩ := mem_ready.1 hi
    have hlt : i < l.length := by simpa using (Array.getElem?_eq_some_iff.1 ho).1
    rw [(hlist i hlt).2 hlt] at h0
    cases h0
  | succ fuel ih =>
    intro k listed a w hnk hkl hsz hlist hfuel h
    have hl2 : ∀ i, i < l.length → i < k → listed.getD i false = true := fun i hi hik => by
      have h1 := (hlist i hi).2 hik
      simp [hsz, hi] at h1 ⊢
      exact h1
    have only : ∀ i ∈ Region.ready .any l.toArray listed, i = k ∧ k < l.length := fun i hi => by
      obtain ⟨h0, o, ho, hall⟩ := mem_ready.1 hi
      have hlt : i < l.length := by simpa using (Array.getElem?_eq_some_iff.1 ho).1
      have hge : k ≤ i := by
        rcases Nat.lt_or_ge i k with h' | h'
        · rw [(hlist i hlt).2 h'] at h0; cases h0
        · exact h'
      refine ⟨?_, by omega⟩
      rcases Nat.lt_or_ge k i with h' | h'
      · exfalso
        have hS := masks_closed (l := l) (S := fun j => j < i ∧ listed.getD j false = true) ?_ i o (by simpa using ho) ?_ k (ok.tail i k hlt (by omega) h')
        · have := (hlist k (by omega)).1 (by
            have := hS.2
            simp [hsz, show k < l.length by omega] at this ⊢
            exact this)
          omega
        · intro m p ⟨hmi, hml⟩ hp e he hb
          have hon := ok.edges m p hp e he hb
          refine ⟨by omega, ?_⟩
          have hmk := (hlist m (by omega)).1 (by
            simp [hsz, show m < l.length by omega] at hml ⊢
            exact hml)
          exact hl2 _ (by omega) (by omega)
        · intro e he hb
          exact ⟨ok.edges i o (by simpa using ho) e he hb, hall e he hb⟩
      · omega
    refine ⟨fun hnil => ?_, fun i hi => ?_⟩
    · have hk : k = l.length := by
        rcases Nat.lt_or_ge k l.length with h' | h'
        · exfalso
          have : k ∈ Region.ready .any l.toArray listed := mem_ready.2 ⟨by
            have := mt (hlist k h').1 (by omega)
            simpa using this, l[k], by simp [h'], fun e he hb => by
              have hon := ok.edges k _ (List.getElem?_eq_getElem h') e he hb
              exact hl2 _ (by omega) hon⟩
          rw [hnil] at this
          cases this
        · omega
      subst hk
      simpa [wpList] using h
    · obtain ⟨rfl, hlt⟩ := only i hi
      rw [List.drop_eq_getElem_cons hlt] at h
      have ho : l.toArray[i]? = some l[i] := by simp [hlt]
      have hw : wpOp P l.toArray Q i (wpList P l.toArray Q (l.drop (i + 1))) a w := by unfold wpOp; simp only [ho]; exact h
      refine wpOp_mono (fun a' w' h' => ih (i + 1) _ a' w' (by omega) (by omega) (by simp [hsz]) (fun j hj => ?_) (by omega) h') hw
      by_cases hij : i = j
      · subst hij; simp [hsz, hlt]
      · rw [getD_set_ne true hij, hlist j hj]; omega

/-- the state of a region whose head is under way -/
structure HeadSt (gs : List Gd) (l : List Oper) (C : World → Prop) (a0 : Act) (listed : Array Bool) (a : Act) (w : World) : Prop where
  inC : C w
  defers : a.defers = a0.defers
  size : a.tmps.size = a0.tmps.size
  lsize : listed.size = l.length
  closed : ∀ k o, listed.getD k false = true → l[k]? = some o → ∀ e ∈ o.after, Region.binds .any e = true → listed.getD e.on false = true
  vals : ∃ xs : Nat → Value, ∀ j g, gs[j]? = some g → listed.getD j false = true → g.holds (xs j) w ∧ ∀ o d, l[j]? = some o → o.dst = some d → a.tmps[d]? = some (xs j)
  rest : ∀ t, (∀ j o, listed.getD j false = true → l[j]? = some o → o.dst ≠ some t) → a.tmps[t]? = a0.tmps[t]?

theorem gD_both {listed : Array Bool} {i : Nat} (h : listed.getD i true = false) : listed.getD i false = false := by
  rcases Nat.lt_or_ge i listed.size with h' | h'
  · simp [h'] at h ⊢; exact h
  · simp [Array.getElem?_eq_none h']
theorem gD_lt {listed : Array Bool} {i : Nat} (h : listed.getD i false = true) : i < listed.size := by
  rcases Nat.lt_or_ge i listed.size with h' | h'
  · exact h'
  · simp [Array.getElem?_eq_none h'] at h

theorem act_ext {a b : Act} (h1 : a.tmps.size = b.tmps.size) (h2 : ∀ t : Nat, a.tmps[t]? = b.tmps[t]?) (h3 : a.defers = b.defers) : a = b := by
  obtain ⟨ta, da⟩ := a
  obtain ⟨tb, db⟩ := b
  simp only at h1 h2 h3
  subst h3
  congr 1
  exact Array.ext_getElem? h2

theorem eval_of_same {a b : Act} {t : Nat} (h : a.tmps[t]? = b.tmps[t]?) : a.eval (.tmp t) = b.eval (.tmp t) := by
  simp [Act.eval, h]

theorem wanted_of_same {ops : Array Oper} {o : Oper} {a b : Act} (h : ∀ t ∈ o.looksAt ops, a.tmps[t]? = b.tmps[t]?) :
    Region.wanted o (yielded ops a.tmps) = Region.wanted o (yielded ops b.tmps) := by
  unfold Region.wanted
  cases hg : o.guard with
  | none => rfl
  | some gw =>
    obtain ⟨g, want⟩ := gw
    have hy : yielded ops a.tmps g = yielded ops b.tmps g := by
      unfold yielded
      cases ht : (ops[g]?).bind (·.dst) with
      | none => rfl
      | some t =>
        have := h t (by simp [Oper.looksAt, hg, ht])
        simp [this]
    simp only [hy]

theorem execOp_of_same {ops : Array Oper} {o : Oper} {a b : Act} (hs : ∀ cs x, o.op ≠ .select cs x) (h : ∀ t ∈ o.looksAt ops, a.tmps[t]? = b.tmps[t]?) :
    execOp a.eval o = execOp b.eval o :=
  execOp_congr o hs fun x hx => by
    cases x with
    | tmp t => exact eval_of_same (h t (List.mem_append_left _ (List.mem_filterMap.2 ⟨.tmp t, by simpa using hx, rfl⟩)))
    | _ => rfl

/-- one operation of the head, at a state of the region -/
theorem head_step {C : World → Prop} {Q : Exit → Act → World → Prop} {s : Nat} (ok : RelOk l gs.length s) (hs : a0.tmps.size = s)
    (h : wpRel P l.toArray C Q gs 0 l a0 (fun _ _ => True)) {listed : Array Bool} {a : Act} {w : World} (st : HeadSt gs l C a0 listed a w)
    {i : Nat} {o : Oper} {g : Gd} (ho : l[i]? = some o) (hg : gs[i]? = some g) (hun : listed.getD i false = false)
    (hready : ∀ e ∈ o.after, Region.binds .any e = true → listed.getD e.on false = true) :
    if Region.wanted o (yielded l.toArray a.tmps) then relAt P o a w (StepOk g w) else g.holds undef w := by
  have hig : i < gs.length := (List.getElem?_eq_some_iff.1 hg).1
  obtain ⟨xs, hxs⟩ := st.vals
  obtain ⟨facts, hf, hw⟩ := wpRel_at ok.len h xs i (by omega)
  have hdg : gs.drop i = g :: gs.drop (i + 1) := by
    rw [List.drop_eq_getElem_cons (by omega)]
    congr 1
    rw [List.getElem?_eq_getElem hig] at hg
    exact Option.some.inj hg
  have hil : i < l.length := (List.getElem?_eq_some_iff.1 ho).1
  have hdl : l.drop i = o :: l.drop (i + 1) := by
    rw [List.drop_eq_getElem_cons hil]
    congr 1
    rw [List.getElem?_eq_getElem hil] at ho
    exact Option.some.inj ho
  rw [hdg, hdl] at hw
  have H := hw.1 w st.inC (fun j hj => hf j w fun gj hgj hlt => by
    obtain ⟨e, he, hon, hb⟩ := afterB_iff.1 hj
    have := hready e he hb
    rw [hon] at this
    exact (hxs j gj hgj this).1)
  have same : ∀ t ∈ o.looksAt l.toArray, a.tmps[t]? = (lexA gs l xs a0 i).tmps[t]? := fun t ht => by
    by_cases hex : ∃ j p, j < gs.length ∧ j ≠ i ∧ l[j]? = some p ∧ p.dst = some t
    · obtain ⟨j, p, hjn, hji, hp, hpd⟩ := hex
      have hts : t < a0.tmps.size := by rw [hs]; exact ok.dst j p t hjn hp hpd
      rcases ok.looks i j o p t hig hjn (Ne.symm hji) ho hp ht hpd with hA | hA
      · obtain ⟨e, he, hon, hb⟩ := afterB_iff.1 hA
        have hlist := hready e he hb
        rw [hon] at hlist
        have hlt : j < i := by have := ok.edges i o ho e he hb; omega
        have hgj : gs[j]? = some gs[j] := List.getElem?_eq_getElem hjn
        obtain ⟨hh, hv⟩ := hxs j _ hgj hlist
        rw [hv p t hp hpd, lexA_at hp hpd hts i hlt (fun k q hk hkj hq hqd => hkj (ok.uniq k j q p t (by omega) hjn hq hp hqd hpd))]
        simp [List.getD, hgj, Gd.val_of hh]
      · obtain ⟨e, he, hon, hb⟩ := afterB_iff.1 hA
        have hlt : i < j := by have := ok.edges j p hp e he hb; omega
        rw [st.rest t (fun k q hk hq hqd => ?_), lexA_other t i (fun k q hk hq hqd => ?_)]
        · have := ok.uniq k j q p t (by omega) hjn hq hp hqd hpd
          omega
        · have hkn : k < gs.length ∨ ¬ k < gs.length := by omega
          rcases hkn with hkn | hkn
          · have hkj := ok.uniq k j q p t hkn hjn hq hp hqd hpd
            subst hkj
            rw [hp] at hq
            obtain rfl := Option.some.inj hq
            have := st.closed k p hk hp e he hb
            rw [hon, hun] at this
            cases this
          · exfalso
            have hkl : k < l.length := (List.getElem?_eq_some_iff.1 hq).1
            have hik := masks_closed (l := l) (S := fun j => listed.getD j false = true) (fun m p hm hp e he hb => st.closed m p hm hp e he hb) k q hq
              (fun e he hb => st.closed k q hk hq e he hb) i (ok.tail k i hkl (by omega) (by omega))
            rw [hun] at hik
            cases hik
    · rw [st.rest t (fun k q hk hq hqd => ?_), lexA_other t i (fun k q hk hq hqd => hex ⟨k, q, by omega, by omega, hq, hqd⟩)]
      have hki : k ≠ i := by rintro rfl; rw [hun] at hk; cases hk
      have hkn : k < gs.length ∨ ¬ k < gs.length := by omega
      rcases hkn with hkn | hkn
      · exact hex ⟨k, q, hkn, hki, hq, hqd⟩
      · have hkl : k < l.length := (List.getElem?_eq_some_iff.1 hq).1
        have hik := masks_closed (l := l) (S := fun j => listed.getD j false = true) (fun m p hm hp e he hb => st.closed m p hm hp e he hb) k q hq
          (fun e he hb => st.closed k q hk hq e he hb) i (ok.tail k i hkl (by omega) (by omega))
        rw [hun] at hik
        cases hik
  rw [wanted_of_same same]
  unfold relAt at H ⊢
  rw [execOp_of_same (Region.noSelect_spec ok.sel i o · · (by simpa using ho)) same]
  exact H

theorem head_end {C : World → Prop} {Q : Exit → Act → World → Prop} {s : Nat} (ok : RelOk l gs.length s) (hs : a0.tmps.size = s)
    (h : wpRel P l.toArray C Q gs 0 l a0 (fun _ _ => True)) {listed : Array Bool} {a : Act} {w : World} (st : HeadSt gs l C a0 listed a w)
    (hall : ∀ i, i < gs.length → listed.getD i false = true) (hh : ∀ k, listed.getD k false = true → k < gs.length) : wpList P l.toArray Q (l.drop gs.length) a w := by
  obtain ⟨xs, hxs⟩ := st.vals
  obtain ⟨facts, hf, hw⟩ := wpRel_at ok.len h xs gs.length (Nat.le_refl _)
  rw [List.drop_length] at hw
  have H : wpList P l.toArray Q (l.drop gs.length) (lexA gs l xs a0 gs.length) w := hw w st.inC (fun j => hf j w fun gj hgj hlt => (hxs j gj hgj (hall j hlt)).1)
  have hee : a = lexA gs l xs a0 gs.length := by
    refine act_ext (by rw [lexA_size, st.size]) (fun t => ?_) (by rw [lexA_defers, st.defers])
    by_cases hex : ∃ j p, j < gs.length ∧ l[j]? = some p ∧ p.dst = some t
    · obtain ⟨j, p, hjn, hp, hpd⟩ := hex
      have hts : t < a0.tmps.size := by rw [hs]; exact ok.dst j p t hjn hp hpd
      have hgj : gs[j]? = some gs[j] := List.getElem?_eq_getElem hjn
      obtain ⟨h1, h2⟩ := hxs j _ hgj (hall j hjn)
      rw [h2 p t hp hpd, lexA_at hp hpd hts gs.length hjn (fun k q hk hkj hq hqd => hkj (ok.uniq k j q p t hk hjn hq hp hqd hpd))]
      simp [List.getD, hgj, Gd.val_of h1]
    · rw [st.rest t (fun k q hk hq hqd => hex ⟨k, q, hh k hk, hq, hqd⟩), lexA_other t gs.length (fun k q hk hq hqd => hex ⟨k, q, hk, hq, hqd⟩)]
  rw [hee]
  exact H

theorem wpAny_rel {C : World → Prop} {Q : Exit → Act → World → Prop} {s : Nat} (ok : RelOk l gs.length s) (hs : a0.tmps.size = s)
    (hC : ∀ w w', C w → Below w.heap.size w w' → C w') (h : wpRel P l.toArray C Q gs 0 l a0 (fun _ _ => True)) :
    ∀ (fuel : Nat) (listed : Array Bool) (a : Act) (w : World), HeadSt gs l C a0 listed a w → (∀ k, listed.getD k false = true → k < gs.length) →
      ((List.range l.length).countP fun k => !listed.getD k true) ≤ fuel → wpAny P .any l.toArray Q fuel listed a w := by
  intro fuel
  induction fuel with
  | zero =>
    intro listed a w st hh hc
    -- everything is listed: the head is the whole
    have hall : ∀ i, i < l.length → listed.getD i false = true := fun i hi => by
      have h0 : ((List.range l.length).countP fun k => !listed.getD k true) = 0 := by omega
      rw [List.countP_eq_zero] at h0
      have := h0 i (by simpa using hi)
      simp [st.lsize, hi] at this ⊢
      exact this
    have hn : gs.length = l.length := by
      have := ok.len
      rcases Nat.lt_or_ge gs.length l.length with h' | h'
      · have := hh gs.length (hall _ h'); omega
      · omega
    exact wpAny_tail ok 0 l.length listed a w (by omega) (Nat.le_refl _) st.lsize (fun i hi => ⟨fun _ => hi, fun _ => by
      have := hall i hi
      simp [st.lsize, hi] at this ⊢
      exact this⟩) (by omega) (by
      have H := head_end ok hs h st (fun i hi => hall i (by omega)) hh
      rwa [hn] at H)
  | succ fuel ih =>
    intro listed a w st hh hc
    by_cases hdone : ∀ i, i < gs.length → listed.getD i false = true
    · refine wpAny_tail ok (fuel + 1) gs.length listed a w (Nat.le_refl _) ok.len st.lsize (fun i hi => ⟨fun hl => hh i (by
        simp [st.lsize, hi] at hl ⊢
        exact hl), fun hig => by
        have := hdone i hig
        simp [st.lsize, hi] at this ⊢
        exact this⟩) ?_ (head_end ok hs h st hdone hh)
      refine Nat.le_trans ?_ hc
      rw [show l.length = gs.length + (l.length - gs.length) by have := ok.len; omega, List.range_add, List.countP_append]
      have : ((List.range (l.length - gs.length)).map (gs.length + ·)).countP (fun k => !listed.getD k true) = l.length - gs.length := by
        rw [List.countP_eq_length.2, List.length_map, List.length_range]
        intro k hk
        simp only [List.mem_map, List.mem_range] at hk
        obtain ⟨m, hm, rfl⟩ := hk
        have hlt : gs.length + m < l.length := by omega
        have : listed.getD (gs.length + m) false ≠ true := fun h => by have := hh _ h; omega
        simp [st.lsize, hlt] at this ⊢
        exact this
      omega
    · have hne : Region.ready .any l.toArray listed ≠ [] := by
        -- the least one that is not listed is ready
        have hex : ∃ i, i < gs.length ∧ listed.getD i false = false ∧ ∀ j, j < i → listed.getD j false = true := by
          have : ∃ i, i < gs.length ∧ listed.getD i false = false := by
            simp only [Classical.not_forall] at hdone
            obtain ⟨i, hi, hb⟩ := hdone
            exact ⟨i, hi, by simpa using hb⟩
          obtain ⟨i, hi, hb⟩ := this
          induction i using Nat.strongRecOn with
          | _ i ihi =>
            by_cases hall : ∀ j, j < i → listed.getD j false = true
            · exact ⟨i, hi, hb, hall⟩
            · simp only [Classical.not_forall] at hall
              obtain ⟨j, hj, hjb⟩ := hall
              exact ihi j hj (by omega) (by simpa using hjb)
        obtain ⟨i, hi, hb, hall⟩ := hex
        have hil : i < l.length := by have := ok.len; omega
        have : i ∈ Region.ready .any l.toArray listed := mem_ready.2 ⟨by
          simp [st.lsize, hil] at hb ⊢
          exact hb, l[i], by simp [hil], fun e he hbd => hall _ (ok.edges i _ (List.getElem?_eq_getElem hil) e he hbd)⟩
        intro h0
        rw [h0] at this
        cases this
      refine ⟨fun h0 => absurd h0 hne, fun i hi => ?_⟩
      obtain ⟨h0, o, ho, hall⟩ := mem_ready.1 hi
      have ho' : l[i]? = some o := by simpa using ho
      have hil : i < l.length := (List.getElem?_eq_some_iff.1 ho').1
      have hun := gD_both h0
      have hig : i < gs.length := by
        rcases Nat.lt_or_ge i gs.length with h' | h'
        · exact h'
        · exfalso
          apply hdone
          intro j hj
          exact masks_closed (l := l) (S := fun j => listed.getD j false = true) (fun m p hm hp e he hb => st.closed m p hm hp e he hb) i o ho' hall j (ok.tail i j hil h' (by omega))
      have hg : gs[i]? = some gs[i] := List.getElem?_eq_getElem hig
      have H := head_step ok hs h st ho' hg hun hall
      -- what a value in the slot leaves
      have next : ∀ v w', Below w.heap.size w w' → gs[i].holds v w' → wpAny P .any l.toArray Q fuel (listed.setIfInBounds i true) (a.put o.dst v) w' := fun v w' hb hv => by
        have hset : ∀ k, (listed.setIfInBounds i true).getD k false = true → k = i ∨ listed.getD k false = true := fun k hk => by
          by_cases hik : i = k
          · exact .inl hik.symm
          · rw [getD_set_ne false hik] at hk; exact .inr hk
        refine ih _ _ _ ?_ (fun k hk => (hset k hk).elim (fun e => by omega) (hh k)) ?_
        · refine ⟨hC w w' st.inC hb, by rw [put_defers', st.defers], by rw [put_size, st.size], by simp [st.lsize], ?_, ?_, ?_⟩
          · intro k p hk hp e he hbd
            rcases hset k hk with rfl | hk'
            · rw [ho'] at hp
              obtain rfl := Option.some.inj hp
              exact getD_set_true (hall e he hbd)
            · exact getD_set_true (st.closed k p hk' hp e he hbd)
          · obtain ⟨xs, hxs⟩ := st.vals
            refine ⟨fun j => if j = i then v else xs j, fun j g hgj hj => ?_⟩
            show g.holds (if j = i then v else xs j) w' ∧ _
            by_cases hji : j = i
            · subst hji
              rw [if_pos rfl]
              rw [hg] at hgj
              obtain rfl := Option.some.inj hgj
              refine ⟨hv, fun p d hp hd => ?_⟩
              rw [ho'] at hp
              obtain rfl := Option.some.inj hp
              rw [hd, put_same _ _ _ (by rw [st.size, hs]; exact ok.dst j o d hig ho' hd)]
              simp
            · rw [if_neg hji]
              rcases hset j hj with h' | hj'
              · exact absurd h' hji
              · obtain ⟨h1, h2⟩ := hxs j g hgj hj'
                refine ⟨Gd.keep h1 hb, fun p d hp hd => ?_⟩
                show _ = some (if j = i then v else xs j)
                rw [if_neg hji, put_other, h2 p d hp hd]
                intro hod
                have hjn : j < gs.length := (List.getElem?_eq_some_iff.1 hgj).1
                exact hji (ok.uniq j i p o d hjn hig hp ho' hd hod)
          · intro t ht
            rw [put_other, st.rest t (fun j p hj => ht j p (getD_set_true hj))]
            intro hod
            exact ht i o (by simp [st.lsize, hil]) ho' hod
        · have := unlisted_count (m := l.length) hil h0 (by rw [st.lsize]; exact hil)
          omega
      unfold wpOp
      simp only [ho]
      by_cases hw : Region.wanted o (yielded l.toArray a.tmps) = true
      · rw [if_pos hw] at H
        rw [if_pos hw]
        exact .inl (wp_of_relAt (fun v w' ⟨hb, hv⟩ => next v w' hb hv) H)
      · rw [if_neg hw] at H
        rw [if_neg hw]
        exact next undef w (Below.refl _ _) H

theorem gD_rep (m j : Nat) : (Array.replicate m false).getD j false = false := by
  rcases Nat.lt_or_ge j m with h | h <;> simp [h]

/-- ONE WALK IN THE ORDER OF THE TEXT SERVES EVERY ORDER. -/
theorem wp_region_rel {id : Nat} {Q : Exit → Act → World → Prop} {a : Act} {w : World} {l : List Oper} (C : World → Prop) (hm : P.follows .mixedOrders = true)
    (h0 : C w.drew) (hC : ∀ w w', C w → Below w.heap.size w w' → C w')
    (h : ∃ gs, wpRel P l.toArray C Q gs 0 l a (fun _ _ => True) ∧ relB l gs.length a.tmps.size = true) : (Code.region id l.toArray true).wp P Q a w := by
  obtain ⟨gs, h, hB⟩ := h
  refine wp_region_any hm ?_
  refine wpAny_rel (relB_ok hB) rfl hC h _ _ _ _ ⟨h0, rfl, rfl, by simp, ?_, ⟨fun _ => undef, ?_⟩, ?_⟩ ?_ ?_
  · intro k o hk; rw [gD_rep] at hk; cases hk
  · intro j g _ hj; rw [gD_rep] at hj; cases hj
  · intro t _; rfl
  · intro k hk; rw [gD_rep] at hk; cases hk
  · refine Nat.le_trans (List.countP_le_length ..) ?_
    simp

/-- one operation of the head: it yields this value -/
theorem rel_det {C : World → Prop} {Q : Exit → Act → World → Prop} {gs : List Gd} {i : Nat} {ops : Array Oper} {o : Oper} {l : List Oper} {a : Act} {facts : Nat → World → Prop} {c : Value}
    (hw : Region.wanted o (yielded ops a.tmps) = true) (h1 : ∀ w, C w → (∀ j, afterB o j = true → facts j w) → relAt P o a w (StepOk (.det c) w))
    (h2 : ∀ K : Act → Prop, (∀ a, wpRel P ops C Q gs (i + 1) l a facts → K a) → K (a.put o.dst c)) : wpRel P ops C Q (.det c :: gs) i (o :: l) a facts :=
  ⟨fun w hC hF => by rw [if_pos hw]; exact h1 w hC hF, h2 _ fun _ h => h⟩
/-- one that is not wanted -/
theorem rel_skip {C : World → Prop} {Q : Exit → Act → World → Prop} {gs : List Gd} {i : Nat} {ops : Array Oper} {o : Oper} {l : List Oper} {a : Act} {facts : Nat → World → Prop}
    (hw : Region.wanted o (yielded ops a.tmps) = false) (h2 : ∀ K : Act → Prop, (∀ a, wpRel P ops C Q gs (i + 1) l a facts → K a) → K (a.put o.dst undef)) : wpRel P ops C Q (.det undef :: gs) i (o :: l) a facts :=
  ⟨fun w hC hF => by rw [if_neg (by rw [hw]; exact Bool.false_ne_true)]; rfl, h2 _ fun _ h => h⟩
/-- one that yields a value of which so much is known -/
theorem rel_some {C : World → Prop} {Q : Exit → Act → World → Prop} {gs : List Gd} {i : Nat} {ops : Array Oper} {o : Oper} {l : List Oper} {a : Act} {facts : Nat → World → Prop} {G : Value → World → Prop} {hG : ∀ v w w', G v w → Below w.heap.size w w' → G v w'}
    (hw : Region.wanted o (yielded ops a.tmps) = true) (h1 : ∀ w, C w → (∀ j, afterB o j = true → facts j w) → relAt P o a w (StepOk (.rel G hG) w))
    (h2 : ∀ v, ∀ K : Act → Prop, (∀ a, wpRel P ops C Q gs (i + 1) l a (fun j w => if j = i then G v w else facts j w) → K a) → K (a.put o.dst v)) : wpRel P ops C Q (.rel G hG :: gs) i (o :: l) a facts :=
  ⟨fun w hC hF => by rw [if_pos hw]; exact h1 w hC hF, fun v => h2 v _ fun _ h => h⟩
theorem rel_nil {C : World → Prop} {Q : Exit → Act → World → Prop} {i : Nat} {ops : Array Oper} {l : List Oper} {a : Act} {facts : Nat → World → Prop}
    (h : ∀ w, C w → (∀ j, facts j w) → wpList P ops Q l a w) : wpRel P ops C Q [] i l a facts := h
theorem rel_call {f : FuncId} {args : Array Value} {w : World} {c : Value} (h : Calls P f args w fun e w' => e = .returned c ∧ Below w.heap.size w w') : Calls P f args w (RetBy (StepOk (.det c) w)) :=
  h.mono fun e w' ⟨he, hb⟩ => ⟨c, he, hb, rfl⟩
theorem bcell {W w1 : World} (hb : Below W.heap.size W w1) : (∀ b o, b < W.heap.size → w1.cell? ⟨b, o, none⟩ = W.cell? ⟨b, o, none⟩) ∧ (∀ b o, b < W.heap.size → w1.frozen? ⟨b, o, none⟩ = W.frozen? ⟨b, o, none⟩) :=
  ⟨fun b o h => hb.cell (p := ⟨b, o, none⟩) h, fun b o h => hb.frozen (p := ⟨b, o, none⟩) h⟩
end
attribute [go_sem] relAt relUpon
end Go.Proofs.Ytpcfkflhnkfjjaa
