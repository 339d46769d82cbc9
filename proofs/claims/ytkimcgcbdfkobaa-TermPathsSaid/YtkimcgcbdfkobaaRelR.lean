/- As XRel, where one operation makes a new block: what is known of each other value is known beside that block, in every order. -/
import Derived.Test.YtkimcgcbdfkobaaRel
set_option linter.unusedVariables false
set_option linter.unusedSimpArgs false
namespace Go.Proofs.Ytkimcgcbdfkobaa.RR
open Go Go.RowKit Go.Proofs.Ytkimcgcbdfkobaa

inductive Gd where
  | det (c : Value)
  | rel (G : Value → Option Nat → World → Prop) (h : ∀ v ob w w', G v ob w → Below w.heap.size w w' → G v ob w') (o : ∀ v w w' b, G v none w → Below w.heap.size w w' → w.heap.size ≤ b → G v (some b) w')
  | new (G : Nat → Value → World → Prop) (h : ∀ b v w w', G b v w → Below w.heap.size w w' → G b v w')

def Gd.isNew : Gd → Bool
  | .new .. => true
  | _ => false
def Gd.holds : Gd → Value → Option Nat → World → Prop
  | .det c, v, _, _ => v = c
  | .rel G _ _, v, ob, w => G v ob w
  | .new G _, v, ob, w => ∃ b, ob = some b ∧ G b v w
def Gd.val : Gd → Value → Value
  | .det c, _ => c
  | .rel _ _ _, v => v
  | .new _ _, v => v

theorem Gd.val_of {g : Gd} {v : Value} {ob : Option Nat} {w : World} (h : g.holds v ob w) : g.val v = v := by
  cases g with
  | det c => exact h.symm
  | rel G hG hO => rfl
  | new G hG => rfl
theorem Gd.keep {g : Gd} {v : Value} {ob : Option Nat} {w w' : World} (h : g.holds v ob w) (hb : Below w.heap.size w w') : g.holds v ob w' := by
  cases g with
  | det c => exact h
  | rel G hG hO => exact hG v ob w w' h hb
  | new G hG => obtain ⟨b, h1, h2⟩ := h; exact ⟨b, h1, hG b v w w' h2 hb⟩

def StepOk (g : Gd) (ob : Option Nat) (w : World) (v : Value) (w' : World) : Prop :=
  Below w.heap.size w w' ∧ (match g with
    | .det c => v = c
    | .rel G _ _ => G v ob w'
    | .new G _ => ∃ b, w.heap.size ≤ b ∧ b < w'.heap.size ∧ G b v w')
def ObOk (ob : Option Nat) (w : World) : Prop := ∀ b, ob = some b → b < w.heap.size
def newB : List Gd → Bool
  | [] => true
  | g :: gs => if g.isNew then gs.all (fun h => !h.isNew) else newB gs
theorem newB_one : ∀ {gs : List Gd}, newB gs = true → ∀ {i j : Nat} {g h : Gd}, gs[i]? = some g → gs[j]? = some h → g.isNew = true → h.isNew = true → i = j
  | [], _, i, j, g, h, hi, _, _, _ => by simp at hi
  | x :: gs, hb, i, j, g, h, hi, hj, hg, hh => by
    unfold newB at hb
    split at hb
    · have none : ∀ (k : Nat) (y : Gd), gs[k]? = some y → y.isNew = true → False := fun k y hk hy => by
        have := List.all_eq_true.1 hb y (List.mem_of_getElem? hk)
        rw [hy] at this; cases this
      match i, j, hi, hj with
      | 0, 0, _, _ => rfl
      | 0, j + 1, _, hj => exact (none j h (by simpa using hj) hh).elim
      | i + 1, _, hi, _ => exact (none i g (by simpa using hi) hg).elim
    · rename_i hx
      match i, j, hi, hj with
      | 0, _, hi, _ => simp at hi; subst hi; exact absurd hg hx
      | i + 1, 0, _, hj => simp at hj; subst hj; exact absurd hh hx
      | i + 1, j + 1, hi, hj => exact congrArg (· + 1) (newB_one (i := i) (j := j) hb (by simpa using hi) (by simpa using hj) hg hh)

def wpRel (P : Program) (ops : Array Oper) (C : World → Prop) (Q : Exit → Act → World → Prop) (p : Nat) : List Gd → Nat → List Oper → Act → (Nat → Option Nat → World → Prop) → Prop
  | [], _, l, a, facts => ∀ w ob, C w → ObOk ob w → (∀ j, facts j ob w) → wpList P ops Q l a w ∧ ∀ o rest q old, l = o :: rest → ops[p]? = some q → wpList P ops Q (o :: q :: rest) (a.put q.dst old) w
  | g :: gs, i, o :: l, a, facts =>
    (∀ w ob, C w → ObOk ob w → (∀ j, afterB o j = true → facts j ob w) → if Region.wanted o (yielded ops a.tmps) then relAt P o a w (StepOk g ob w) else g = .det undef) ∧
    (match g with
      | .det c => wpRel P ops C Q p gs (i + 1) l (a.put o.dst c) facts
      | .rel G _ _ => ∀ v, wpRel P ops C Q p gs (i + 1) l (a.put o.dst v) (fun j ob w => if j = i then G v ob w else facts j ob w)
      | .new G _ => ∀ v, wpRel P ops C Q p gs (i + 1) l (a.put o.dst v) (fun j ob w => if j = i then (∃ b, ob = some b ∧ G b v w) else facts j ob w))
  | _ :: _, _, [], _, _ => False

section
variable {P : Program}
def relBL (l : List Oper) (n s p : Nat) : Bool :=
  let m := masks l
  decide (p < n) && (match l[p]? with | some o => o.dst.isSome | none => false) &&
  Region.noSelect l.toArray && decide (n ≤ l.length) &&
  (l.zipIdx.all fun (o, k) => o.after.toList.all fun e => !Region.binds .any e || decide (e.on < k)) &&
  ((l.take n).all fun o => match o.dst with | some d => decide (d < s) | none => true) &&
  ((l.take n).zipIdx.all fun (o, i) => (l.take n).zipIdx.all fun (p, j) => i == j || o.dst.isNone || o.dst != p.dst) &&
  ((l.take n).zipIdx.all fun (o, i) => (o.looksAt l.toArray).all fun t => (l.take n).zipIdx.all fun (p, j) => i == j || p.dst != some t || afterB o j || afterB p i) &&
  (l.zipIdx.all fun (_, k) => decide (k < n) || (List.range k).all fun j => (decide (k = n) && decide (j = p)) || (m.getD k 0).testBit j)

structure RelOkL (l : List Oper) (n s p : Nat) : Prop where
  sel : Region.noSelect l.toArray = true
  len : n ≤ l.length
  edges : ∀ k o, l[k]? = some o → ∀ e ∈ o.after, Region.binds .any e = true → e.on < k
  dst : ∀ i o d, i < n → l[i]? = some o → o.dst = some d → d < s
  uniq : ∀ i j o p d, i < n → j < n → l[i]? = some o → l[j]? = some p → o.dst = some d → p.dst = some d → i = j
  looks : ∀ i j o p t, i < n → j < n → i ≠ j → l[i]? = some o → l[j]? = some p → t ∈ o.looksAt l.toArray → p.dst = some t → afterB o j = true ∨ afterB p i = true
  lt : p < n
  dstp : ∃ o d, l[p]? = some o ∧ o.dst = some d
  tail : ∀ k j, k < l.length → n ≤ k → j < k → ¬ (k = n ∧ j = p) → ((masks l).getD k 0).testBit j = true

theorem relBL_ok {l : List Oper} {n s p : Nat} (h : relBL l n s p = true) : RelOkL l n s p := by
  simp only [relBL, Bool.and_eq_true] at h
  obtain ⟨⟨⟨⟨⟨⟨⟨⟨hp1, hp2⟩, h1⟩, h2⟩, h3⟩, h4⟩, h5⟩, h6⟩, h7⟩ := h
  have h2 : n ≤ l.length := by simpa using h2
  have tk : ∀ i o, i < n → l[i]? = some o → (o, i) ∈ (l.take n).zipIdx := fun i o hi ho => by
    rw [List.mk_mem_zipIdx_iff_getElem?, List.getElem?_take, if_pos hi]; exact ho
  refine ⟨h1, h2, ?_, ?_, ?_, ?_, by simpa using hp1, ?_, ?_⟩
  rotate_left 4
  · cases hl : l[p]? with
    | none => rw [hl] at hp2; cases hp2
    | some o =>
      rw [hl] at hp2
      obtain ⟨d, hd⟩ := Option.isSome_iff_exists.1 hp2
      exact ⟨o, d, rfl, hd⟩
  rotate_left
  · intro k o ho e he hb
    have := List.all_eq_true.1 h3 (o, k) (by rw [List.mk_mem_zipIdx_iff_getElem?]; exact ho)
    have := List.all_eq_true.1 this e (by simpa using he)
    simpa [hb] using this
  · intro i o d hi ho hd
    have := List.all_eq_true.1 h4 o (List.mem_of_getElem? (i := i) (by rw [List.getElem?_take, if_pos hi]; exact ho))
    simpa [hd] using this
  · intro i j o p d hi hj ho hp hod hpd
    have := List.all_eq_true.1 (List.all_eq_true.1 h5 _ (tk i o hi ho)) _ (tk j p hj hp)
    simpa [hod, hpd] using this
  · intro i j o p t hi hj hne ho hp ht hpd
    have := List.all_eq_true.1 (List.all_eq_true.1 (List.all_eq_true.1 h6 _ (tk i o hi ho)) t ht) _ (tk j p hj hp)
    simpa [hpd, hne] using this
  · intro k j hk hnk hjk hne
    have := List.all_eq_true.1 h7 (l[k], k) (by rw [List.mk_mem_zipIdx_iff_getElem?]; exact List.getElem?_eq_getElem hk)
    simp only [Bool.or_eq_true, decide_eq_true_eq] at this
    have := List.all_eq_true.1 (this.resolve_left (by omega)) j (by simpa using hjk)
    simp only [Bool.or_eq_true, Bool.and_eq_true, decide_eq_true_eq] at this
    exact this.resolve_left hne
theorem RelOkL.tail2 {l : List Oper} {n s p : Nat} (ok : RelOkL l n s p) : ∀ k j, k < l.length → n ≤ j → j < k → ((masks l).getD k 0).testBit j = true :=
  fun k j hk hj hjk => ok.tail k j hk (by omega) hjk (by have := ok.lt; omega)

/-- the operations of the tail come one by one -/
theorem wpAny_tailL {l : List Oper} {n : Nat} (edges : ∀ k o, l[k]? = some o → ∀ e ∈ o.after, Region.binds .any e = true → e.on < k) (tail2 : ∀ k j, k < l.length → n ≤ j → j < k → ((masks l).getD k 0).testBit j = true) {Q : Exit → Act → World → Prop} : ∀ (fuel k : Nat) (listed : Array Bool) (a : Act) (w : World),
    n ≤ k → k ≤ l.length → listed.size = l.length → (∀ i, i < l.length → (listed.getD i true = true ↔ i < k)) → l.length - k ≤ fuel →
    wpList P l.toArray Q (l.drop k) a w → wpAny P .any l.toArray Q fuel listed a w := by
  intro fuel
  induction fuel with
  | zero =>
    intro k listed a w hnk hkl hsz hlist hfuel h
    have hk : k = l.length := by omega
    subst hk
    refine ⟨?_, by simpa [wpList] using h⟩
    rw [List.eq_nil_iff_forall_not_mem]
    intro i hi
    obtain ⟨h0, o, ho, _⟩ := mem_ready.1 hi
    have hlt : i < l.length := by simpa using (Array.getElem?_eq_some_iff.1 ho).1
    rw [(hlist i hlt).2 hlt] at h0
    cases h0
  | succ fuel ih =>
    intro k listed a w hnk hkl hsz hlist hfuel h
    have hl2 : ∀ i, i < l.length → i < k → listed.getD i false = true := fun i hi hik => by
      have h1 := (hlist i hi).2 hik
      simp [hsz, hi] at h1 ⊢
      exact h1
    have only : ∀ i ∈ Region.ready .any l.toArray listed, i = k ∧ k < l.length := fun i hi => by
      obtain ⟨h0, o, ho, hall⟩ := mem_ready.1 hi
      have hlt : i < l.length := by simpa using (Array.getElem?_eq_some_iff.1 ho).1
      have hge : k ≤ i := by
        rcases Nat.lt_or_ge i k with h' | h'
        · rw [(hlist i hlt).2 h'] at h0; cases h0
        · exact h'
      refine ⟨?_, by omega⟩
      rcases Nat.lt_or_ge k i with h' | h'
      · exfalso
        have hS := masks_closed (l := l) (S := fun j => j < i ∧ listed.getD j false = true) ?_ i o (by simpa using ho) ?_ k (tail2 i k hlt (by omega) h')
        · have := (hlist k (by omega)).1 (by
            have := hS.2
            simp [hsz, show k < l.length by omega] at this ⊢
            exact this)
          omega
        · intro m p ⟨hmi, hml⟩ hp e he hb
          have hon := edges m p hp e he hb
          refine ⟨by omega, ?_⟩
          have hmk := (hlist m (by omega)).1 (by
            simp [hsz, show m < l.length by omega] at hml ⊢
            exact hml)
          exact hl2 _ (by omega) (by omega)
        · intro e he hb
          exact ⟨edges i o (by simpa using ho) e he hb, hall e he hb⟩
      · omega
    refine ⟨fun hnil => ?_, fun i hi => ?_⟩
    · have hk : k = l.length := by
        rcases Nat.lt_or_ge k l.length with h' | h'
        · exfalso
          have : k ∈ Region.ready .any l.toArray listed := mem_ready.2 ⟨by
            have := mt (hlist k h').1 (by omega)
            simpa using this, l[k], by simp [h'], fun e he hb => by
              have hon := edges k _ (List.getElem?_eq_getElem h') e he hb
              exact hl2 _ (by omega) hon⟩
          rw [hnil] at this
          cases this
        · omega
      subst hk
      simpa [wpList] using h
    · obtain ⟨rfl, hlt⟩ := only i hi
      rw [List.drop_eq_getElem_cons hlt] at h
      have ho : l.toArray[i]? = some l[i] := by simp [hlt]
      have hw : wpOp P l.toArray Q i (wpList P l.toArray Q (l.drop (i + 1))) a w := by unfold wpOp; simp only [ho]; exact h
      refine wpOp_mono (fun a' w' h' => ih (i + 1) _ a' w' (by omega) (by omega) (by simp [hsz]) (fun j hj => ?_) (by omega) h') hw
      by_cases hij : i = j
      · subst hij; simp [hsz, hlt]
      · rw [getD_set_ne true hij, hlist j hj]; omega

/-- the frame of the lexical walk -/
def lexA (gs : List Gd) (l : List Oper) (xs : Nat → Value) (a0 : Act) : Nat → Act
  | 0 => a0
  | k + 1 => (lexA gs l xs a0 k).put ((l[k]?).bind (·.dst)) ((gs.getD k (.det undef)).val (xs k))


variable {gs : List Gd} {l : List Oper} {xs : Nat → Value} {a0 : Act} {p : Nat}

theorem lexA_size (k : Nat) : (lexA gs l xs a0 k).tmps.size = a0.tmps.size := by
  induction k with
  | zero => rfl
  | succ k ih => rw [lexA, put_size, ih]
theorem lexA_defers (k : Nat) : (lexA gs l xs a0 k).defers = a0.defers := by
  induction k with
  | zero => rfl
  | succ k ih => rw [lexA, put_defers', ih]
theorem lexA_other (t : Nat) : ∀ k, (∀ j o, j < k → l[j]? = some o → o.dst ≠ some t) → (lexA gs l xs a0 k).tmps[t]? = a0.tmps[t]?
  | 0, _ => rfl
  | k + 1, h => by
    rw [lexA, put_other, lexA_other t k (fun j o hj => h j o (by omega))]
    intro he
    cases ho : l[k]? with
    | none => simp [ho] at he
    | some o => simp [ho] at he; exact h k o (by omega) ho he
theorem lexA_at {t i : Nat} {oi : Oper} (hi : l[i]? = some oi) (hd : oi.dst = some t) (ht : t < a0.tmps.size) :
    ∀ k, i < k → (∀ j o, j < k → j ≠ i → l[j]? = some o → o.dst ≠ some t) → (lexA gs l xs a0 k).tmps[t]? = some ((gs.getD i (.det undef)).val (xs i))
  | 0, h, _ => by omega
  | k + 1, h, hu => by
    by_cases hik : i = k
    · subst hik
      rw [lexA, hi]
      show ((lexA gs l xs a0 i).put oi.dst _).tmps[t]? = _
      rw [hd, put_same _ _ _ (by rw [lexA_size]; exact ht)]
    · rw [lexA, put_other, lexA_at hi hd ht k (by omega) (fun j o hj => hu j o (by omega))]
      intro he
      cases ho : l[k]? with
      | none => simp [ho] at he
      | some o => simp [ho] at he; exact hu k o (by omega) (by omega) ho he

/-- what the lexical walk gives at operation k, and at the end -/
theorem wpRel_at {ops : Array Oper} {C : World → Prop} {Q : Exit → Act → World → Prop} (hn : gs.length ≤ l.length)
    (h : wpRel P ops C Q p gs 0 l a0 (fun _ _ _ => True)) (xs : Nat → Value) : ∀ k, k ≤ gs.length →
    ∃ facts : Nat → Option Nat → World → Prop, (∀ j ob w, (∀ g, gs[j]? = some g → j < k → g.holds (xs j) ob w) → facts j ob w) ∧
      wpRel P ops C Q p (gs.drop k) k (l.drop k) (lexA gs l xs a0 k) facts
  | 0, _ => ⟨fun _ _ _ => True, fun _ _ _ _ => trivial, h⟩
  | k + 1, hk => by
    obtain ⟨facts, hf, hw⟩ := wpRel_at hn h xs k (by omega)
    have hg : gs.drop k = gs[k] :: gs.drop (k + 1) := List.drop_eq_getElem_cons (by omega)
    have hl : l.drop k = l[k] :: l.drop (k + 1) := List.drop_eq_getElem_cons (by omega)
    rw [hg, hl] at hw
    have ha : lexA gs l xs a0 (k + 1) = (lexA gs l xs a0 k).put l[k].dst (gs[k].val (xs k)) := by
      rw [lexA, List.getElem?_eq_getElem (by omega)]
      simp [List.getD, List.getElem?_eq_getElem (show k < gs.length by omega)]
    rw [ha]
    have h2 := hw.2
    cases hgk : gs[k] with
    | det c =>
      rw [hgk] at h2
      exact ⟨facts, fun j ob w hj => hf j ob w fun g hg' hlt => hj g hg' (by omega), h2⟩
    | rel G hG hO =>
      rw [hgk] at h2
      refine ⟨_, fun j ob w hj => ?_, h2 (xs k)⟩
      show if j = k then G (xs k) ob w else facts j ob w
      by_cases hjk : j = k
      · rw [if_pos hjk]
        subst hjk
        have := hj gs[j] (List.getElem?_eq_getElem (by omega)) (by omega)
        rw [hgk] at this
        exact this
      · rw [if_neg hjk]
        exact hf j ob w fun g hg' hlt => hj g hg' (by omega)
    | new G hG =>
      rw [hgk] at h2
      refine ⟨_, fun j ob w hj => ?_, h2 (xs k)⟩
      show if j = k then (∃ b, ob = some b ∧ G b (xs k) w) else facts j ob w
      by_cases hjk : j = k
      · rw [if_pos hjk]
        subst hjk
        have := hj gs[j] (List.getElem?_eq_getElem (by omega)) (by omega)
        rw [hgk] at this
        exact this
      · rw [if_neg hjk]
        exact hf j ob w fun g hg' hlt => hj g hg' (by omega)

/-- the state of a region whose head is under way -/
structure HeadSt (gs : List Gd) (l : List Oper) (C : World → Prop) (a0 : Act) (listed : Array Bool) (a : Act) (w : World) : Prop where
  inC : C w
  defers : a.defers = a0.defers
  size : a.tmps.size = a0.tmps.size
  lsize : listed.size = l.length
  closed : ∀ k o, listed.getD k false = true → l[k]? = some o → ∀ e ∈ o.after, Region.binds .any e = true → listed.getD e.on false = true
  vals : ∃ (xs : Nat → Value) (ob : Option Nat), ObOk ob w ∧ (∀ j g, gs[j]? = some g → g.isNew = true → listed.getD j false = false → ob = none) ∧ ∀ j g, gs[j]? = some g → listed.getD j false = true → g.holds (xs j) ob w ∧ ∀ o d, l[j]? = some o → o.dst = some d → a.tmps[d]? = some (xs j)
  rest : ∀ t, (∀ j o, listed.getD j false = true → l[j]? = some o → o.dst ≠ some t) → a.tmps[t]? = a0.tmps[t]?

/-- one operation of the head, at a state of the region -/
theorem head_step {C : World → Prop} {Q : Exit → Act → World → Prop} {s : Nat} (ok : RelOkL l gs.length s p) (hs : a0.tmps.size = s)
    (h : wpRel P l.toArray C Q p gs 0 l a0 (fun _ _ _ => True)) {listed : Array Bool} {a : Act} {w : World} (st : HeadSt gs l C a0 listed a w)
    {ob : Option Nat} {xs : Nat → Value} (hob : ObOk ob w) (hxs : ∀ j g, gs[j]? = some g → listed.getD j false = true → g.holds (xs j) ob w ∧ ∀ o d, l[j]? = some o → o.dst = some d → a.tmps[d]? = some (xs j))
    {i : Nat} {o : Oper} {g : Gd} (ho : l[i]? = some o) (hg : gs[i]? = some g) (hun : listed.getD i false = false)
    (hready : ∀ e ∈ o.after, Region.binds .any e = true → listed.getD e.on false = true) (hh : ∀ k, listed.getD k false = true → k < gs.length) :
    if Region.wanted o (yielded l.toArray a.tmps) then relAt P o a w (StepOk g ob w) else g = .det undef := by
  have hig : i < gs.length := (List.getElem?_eq_some_iff.1 hg).1
  obtain ⟨facts, hf, hw⟩ := wpRel_at ok.len h xs i (by omega)
  have hdg : gs.drop i = g :: gs.drop (i + 1) := by
    rw [List.drop_eq_getElem_cons (by omega)]
    congr 1
    rw [List.getElem?_eq_getElem hig] at hg
    exact Option.some.inj hg
  have hil : i < l.length := (List.getElem?_eq_some_iff.1 ho).1
  have hdl : l.drop i = o :: l.drop (i + 1) := by
    rw [List.drop_eq_getElem_cons hil]
    congr 1
    rw [List.getElem?_eq_getElem hil] at ho
    exact Option.some.inj ho
  rw [hdg, hdl] at hw
  have H := hw.1 w ob st.inC hob (fun j hj => hf j ob w fun gj hgj hlt => by
    obtain ⟨e, he, hon, hb⟩ := afterB_iff.1 hj
    have := hready e he hb
    rw [hon] at this
    exact (hxs j gj hgj this).1)
  have same : ∀ t ∈ o.looksAt l.toArray, a.tmps[t]? = (lexA gs l xs a0 i).tmps[t]? := fun t ht => by
    by_cases hex : ∃ j p, j < gs.length ∧ j ≠ i ∧ l[j]? = some p ∧ p.dst = some t
    · obtain ⟨j, p, hjn, hji, hp, hpd⟩ := hex
      have hts : t < a0.tmps.size := by rw [hs]; exact ok.dst j p t hjn hp hpd
      rcases ok.looks i j o p t hig hjn (Ne.symm hji) ho hp ht hpd with hA | hA
      · obtain ⟨e, he, hon, hb⟩ := afterB_iff.1 hA
        have hlist := hready e he hb
        rw [hon] at hlist
        have hlt : j < i := by have := ok.edges i o ho e he hb; omega
        have hgj : gs[j]? = some gs[j] := List.getElem?_eq_getElem hjn
        obtain ⟨hh, hv⟩ := hxs j _ hgj hlist
        rw [hv p t hp hpd, lexA_at hp hpd hts i hlt (fun k q hk hkj hq hqd => hkj (ok.uniq k j q p t (by omega) hjn hq hp hqd hpd))]
        simp [List.getD, hgj, Gd.val_of hh]
      · obtain ⟨e, he, hon, hb⟩ := afterB_iff.1 hA
        have hlt : i < j := by have := ok.edges j p hp e he hb; omega
        rw [st.rest t (fun k q hk hq hqd => ?_), lexA_other t i (fun k q hk hq hqd => ?_)]
        · have := ok.uniq k j q p t (by omega) hjn hq hp hqd hpd
          omega
        · have hkn : k < gs.length ∨ ¬ k < gs.length := by omega
          rcases hkn with hkn | hkn
          · have hkj := ok.uniq k j q p t hkn hjn hq hp hqd hpd
            subst hkj
            rw [hp] at hq
            obtain rfl := Option.some.inj hq
            have := st.closed k p hk hp e he hb
            rw [hon, hun] at this
            cases this
          · exfalso
            exact hkn (hh k hk)
    · rw [st.rest t (fun k q hk hq hqd => ?_), lexA_other t i (fun k q hk hq hqd => hex ⟨k, q, by omega, by omega, hq, hqd⟩)]
      have hki : k ≠ i := by rintro rfl; rw [hun] at hk; cases hk
      have hkn : k < gs.length ∨ ¬ k < gs.length := by omega
      rcases hkn with hkn | hkn
      · exact hex ⟨k, q, hkn, hki, hq, hqd⟩
      · exact hkn (hh k hk)
  rw [wanted_of_same same]
  unfold relAt at H ⊢
  rw [execOp_of_same (Region.noSelect_spec ok.sel i o · · (by simpa using ho)) same]
  exact H

theorem head_end {C : World → Prop} {Q : Exit → Act → World → Prop} {s : Nat} (ok : RelOkL l gs.length s p) (hs : a0.tmps.size = s)
    (h : wpRel P l.toArray C Q p gs 0 l a0 (fun _ _ _ => True)) {listed : Array Bool} {a : Act} {w : World} (st : HeadSt gs l C a0 listed a w)
    (hall : ∀ i, i < gs.length → listed.getD i false = true) (hh : ∀ k, listed.getD k false = true → k < gs.length) : wpList P l.toArray Q (l.drop gs.length) a w := by
  obtain ⟨xs, ob, hob, hnew, hxs⟩ := st.vals
  obtain ⟨facts, hf, hw⟩ := wpRel_at ok.len h xs gs.length (Nat.le_refl _)
  rw [List.drop_length] at hw
  have H : wpList P l.toArray Q (l.drop gs.length) (lexA gs l xs a0 gs.length) w := hw w ob st.inC hob (fun j => hf j ob w fun gj hgj hlt => (hxs j gj hgj (hall j hlt)).1) |>.1
  have hee : a = lexA gs l xs a0 gs.length := by
    refine act_ext (by rw [lexA_size, st.size]) (fun t => ?_) (by rw [lexA_defers, st.defers])
    by_cases hex : ∃ j p, j < gs.length ∧ l[j]? = some p ∧ p.dst = some t
    · obtain ⟨j, p, hjn, hp, hpd⟩ := hex
      have hts : t < a0.tmps.size := by rw [hs]; exact ok.dst j p t hjn hp hpd
      have hgj : gs[j]? = some gs[j] := List.getElem?_eq_getElem hjn
      obtain ⟨h1, h2⟩ := hxs j _ hgj (hall j hjn)
      rw [h2 p t hp hpd, lexA_at hp hpd hts gs.length hjn (fun k q hk hkj hq hqd => hkj (ok.uniq k j q p t hk hjn hq hp hqd hpd))]
      simp [List.getD, hgj, Gd.val_of h1]
    · rw [st.rest t (fun k q hk hq hqd => hex ⟨k, q, hh k hk, hq, hqd⟩), lexA_other t gs.length (fun k q hk hq hqd => hex ⟨k, q, hk, hq, hqd⟩)]
  rw [hee]
  exact H

theorem head_late {C : World → Prop} {Q : Exit → Act → World → Prop} {s : Nat} (ok : RelOkL l gs.length s p) (hs : a0.tmps.size = s)
    (h : wpRel P l.toArray C Q p gs 0 l a0 (fun _ _ _ => True)) {listed : Array Bool} {a : Act} {w : World} (st : HeadSt gs l C a0 listed a w)
    (hdet : ∃ c, gs[p]? = some (.det c))
    (hall : ∀ i, i < gs.length → i ≠ p → listed.getD i false = true) (hp : listed.getD p false = false) (hh : ∀ k, listed.getD k false = true → k < gs.length) {o q : Oper} {rest : List Oper} (hl : l.drop gs.length = o :: rest) (hq : l[p]? = some q) :
    wpList P l.toArray Q (o :: q :: rest) a w := by
  obtain ⟨xs, ob, hob, hnew, hxs⟩ := st.vals
  obtain ⟨c, hc⟩ := hdet
  obtain ⟨q', d, hq', hqd⟩ := ok.dstp
  rw [hq] at hq'
  obtain rfl := Option.some.inj hq'
  obtain ⟨facts, hf, hw⟩ := wpRel_at ok.len h (fun j => if j = p then c else xs j) gs.length (Nat.le_refl _)
  rw [List.drop_length] at hw
  have H := (hw w ob st.inC hob (fun j => hf j ob w fun gj hgj hlt => by
    by_cases hjp : j = p
    · subst hjp
      rw [hc] at hgj
      obtain rfl := Option.some.inj hgj
      show (if j = j then c else xs j) = c
      rw [if_pos rfl]
    · show gj.holds (if j = p then c else xs j) ob w
      rw [if_neg hjp]
      exact (hxs j gj hgj (hall j hlt hjp)).1)).2 o rest q (a.tmps.getD d undef) hl (by simpa using hq)
  have hds : d < a0.tmps.size := by rw [hs]; exact ok.dst p q d ok.lt hq hqd
  have hee : a = (lexA gs l (fun j => if j = p then c else xs j) a0 gs.length).put q.dst (a.tmps.getD d undef) := by
    rw [hqd]
    refine act_ext (by rw [put_size, lexA_size, st.size]) (fun t => ?_) (by rw [put_defers', lexA_defers, st.defers])
    by_cases htd : t = d
    · subst htd
      rw [put_same _ _ _ (by rw [lexA_size]; exact hds)]
      have : t < a.tmps.size := by rw [st.size]; exact hds
      simp [this]
    · rw [put_other _ _ _ _ (fun e => htd (Option.some.inj e).symm)]
      by_cases hex : ∃ j o', j < gs.length ∧ l[j]? = some o' ∧ o'.dst = some t
      · obtain ⟨j, o', hjn, ho', hod⟩ := hex
        have hjp : j ≠ p := by
          rintro rfl
          rw [hq] at ho'
          obtain rfl := Option.some.inj ho'
          rw [hqd] at hod
          exact htd (Option.some.inj hod).symm
        have hts : t < a0.tmps.size := by rw [hs]; exact ok.dst j o' t hjn ho' hod
        have hgj : gs[j]? = some gs[j] := List.getElem?_eq_getElem hjn
        obtain ⟨h1, h2⟩ := hxs j _ hgj (hall j hjn hjp)
        rw [h2 o' t ho' hod, lexA_at ho' hod hts gs.length hjn (fun k q' hk hkj hq' hqd' => hkj (ok.uniq k j q' o' t hk hjn hq' ho' hqd' hod))]
        simp only [List.getD, hgj, Option.getD_some]
        rw [if_neg hjp, Gd.val_of h1]
      · rw [st.rest t (fun j o' hj ho' hod => hex ⟨j, o', hh j hj, ho', hod⟩), lexA_other t gs.length (fun k q' hk hq' hqd' => hex ⟨k, q', hk, hq', hqd'⟩)]
  rw [hee]
  exact H

theorem list_op {Q : Exit → Act → World → Prop} {i : Nat} {o : Oper} {rest : List Oper} {a : Act} {w : World} (ho : l[i]? = some o) (h : wpList P l.toArray Q (o :: rest) a w) : wpOp P l.toArray Q i (wpList P l.toArray Q rest) a w := by
  have ho' : l.toArray[i]? = some o := by simpa using ho
  unfold wpOp
  simp only [ho']
  exact h

theorem wpAny_rel {C : World → Prop} {Q : Exit → Act → World → Prop} {s : Nat} (ok : RelOkL l gs.length s p) (hs : a0.tmps.size = s)
    (hone : newB gs = true) (hdet : ∃ c, gs[p]? = some (.det c)) (hC : ∀ w w', C w → Below w.heap.size w w' → C w') (h : wpRel P l.toArray C Q p gs 0 l a0 (fun _ _ _ => True)) :
    ∀ (fuel : Nat) (listed : Array Bool) (a : Act) (w : World), HeadSt gs l C a0 listed a w → (∀ k, listed.getD k false = true → k < gs.length) →
      ((List.range l.length).countP fun k => !listed.getD k true) ≤ fuel → wpAny P .any l.toArray Q fuel listed a w := by
  intro fuel
  induction fuel with
  | zero =>
    intro listed a w st hh hc
    -- everything is listed: the head is the whole
    have hall : ∀ i, i < l.length → listed.getD i false = true := fun i hi => by
      have h0 : ((List.range l.length).countP fun k => !listed.getD k true) = 0 := by omega
      rw [List.countP_eq_zero] at h0
      have := h0 i (by simpa using hi)
      simp [st.lsize, hi] at this ⊢
      exact this
    have hn : gs.length = l.length := by
      have := ok.len
      rcases Nat.lt_or_ge gs.length l.length with h' | h'
      · have := hh gs.length (hall _ h'); omega
      · omega
    exact wpAny_tailL ok.edges ok.tail2 0 l.length listed a w (by omega) (Nat.le_refl _) st.lsize (fun i hi => ⟨fun _ => hi, fun _ => by
      have := hall i hi
      simp [st.lsize, hi] at this ⊢
      exact this⟩) (by omega) (by
      have H := head_end ok hs h st (fun i hi => hall i (by omega)) hh
      rwa [hn] at H)
  | succ fuel ih =>
    intro listed a w st hh hc
    by_cases hdone : ∀ i, i < gs.length → listed.getD i false = true
    · refine wpAny_tailL ok.edges ok.tail2 (fuel + 1) gs.length listed a w (Nat.le_refl _) ok.len st.lsize (fun i hi => ⟨fun hl => hh i (by
        simp [st.lsize, hi] at hl ⊢
        exact hl), fun hig => by
        have := hdone i hig
        simp [st.lsize, hi] at this ⊢
        exact this⟩) ?_ (head_end ok hs h st hdone hh)
      refine Nat.le_trans ?_ hc
      rw [show l.length = gs.length + (l.length - gs.length) by have := ok.len; omega, List.range_add, List.countP_append]
      have : ((List.range (l.length - gs.length)).map (gs.length + ·)).countP (fun k => !listed.getD k true) = l.length - gs.length := by
        rw [List.countP_eq_length.2, List.length_map, List.length_range]
        intro k hk
        simp only [List.mem_map, List.mem_range] at hk
        obtain ⟨m, hm, rfl⟩ := hk
        have hlt : gs.length + m < l.length := by omega
        have : listed.getD (gs.length + m) false ≠ true := fun h => by have := hh _ h; omega
        simp [st.lsize, hlt] at this ⊢
        exact this
      omega
    · have hne : Region.ready .any l.toArray listed ≠ [] := by
        -- the least one that is not listed is ready
        have hex : ∃ i, i < gs.length ∧ listed.getD i false = false ∧ ∀ j, j < i → listed.getD j false = true := by
          have : ∃ i, i < gs.length ∧ listed.getD i false = false := by
            simp only [Classical.not_forall] at hdone
            obtain ⟨i, hi, hb⟩ := hdone
            exact ⟨i, hi, by simpa using hb⟩
          obtain ⟨i, hi, hb⟩ := this
          induction i using Nat.strongRecOn with
          | _ i ihi =>
            by_cases hall : ∀ j, j < i → listed.getD j false = true
            · exact ⟨i, hi, hb, hall⟩
            · simp only [Classical.not_forall] at hall
              obtain ⟨j, hj, hjb⟩ := hall
              exact ihi j hj (by omega) (by simpa using hjb)
        obtain ⟨i, hi, hb, hall⟩ := hex
        have hil : i < l.length := by have := ok.len; omega
        have : i ∈ Region.ready .any l.toArray listed := mem_ready.2 ⟨by
          simp [st.lsize, hil] at hb ⊢
          exact hb, l[i], by simp [hil], fun e he hbd => hall _ (ok.edges i _ (List.getElem?_eq_getElem hil) e he hbd)⟩
        intro h0
        rw [h0] at this
        cases this
      refine ⟨fun h0 => absurd h0 hne, fun i hi => ?_⟩
      obtain ⟨h0, o, ho, hall⟩ := mem_ready.1 hi
      have ho' : l[i]? = some o := by simpa using ho
      have hil : i < l.length := (List.getElem?_eq_some_iff.1 ho').1
      have hun := gD_both h0
      by_cases hig : i < gs.length
      rotate_left
      · -- the first operation of the tail runs ahead of the late one
        have h' : gs.length ≤ i := by omega
        have bits : ∀ j, j < i → ¬ (i = gs.length ∧ j = p) → listed.getD j false = true := fun j hj hne =>
          masks_closed (l := l) (S := fun j => listed.getD j false = true) (fun m p hm hp e he hb => st.closed m p hm hp e he hb) i o ho' hall j (ok.tail i j hil h' hj hne)
        have hin : i = gs.length := by
          rcases Nat.lt_or_ge gs.length i with h2 | h2
          · have := hh _ (bits gs.length h2 (by omega)); omega
          · omega
        have hpn : listed.getD p false = false := by
          cases hb : listed.getD p false with
          | false => rfl
          | true =>
            exfalso
            apply hdone
            intro j hj
            by_cases hjp : j = p
            · rw [hjp]; exact hb
            · exact bits j (by omega) (by omega)
        have hallp : ∀ j, j < gs.length → j ≠ p → listed.getD j false = true := fun j hj hjp => bits j (by omega) (by omega)
        have hplt := ok.lt
        have hpl : p < l.length := by omega
        have hq : l[p]? = some l[p] := List.getElem?_eq_getElem hpl
        have hdl : l.drop gs.length = o :: l.drop (gs.length + 1) := by
          rw [List.drop_eq_getElem_cons (by omega)]
          congr 1
          subst hin
          rw [List.getElem?_eq_getElem hil] at ho'
          exact Option.some.inj ho'
        have HL := head_late ok hs h st hdet hallp hpn hh hdl hq
        refine wpOp_mono (fun a2 w2 h2 => ?_) (list_op ho' HL)
        -- only the late one is ready
        have hset : ∀ k, (listed.setIfInBounds i true).getD k false = true ↔ k = i ∨ listed.getD k false = true := fun k => by
          by_cases hik : i = k
          · subst hik
            simp [st.lsize, hil]
          · rw [getD_set_ne false hik]
            constructor
            · exact .inr
            · rintro (e | e)
              · exact absurd e.symm hik
              · exact e
        have hlp : (listed.setIfInBounds i true).getD p false = false := by
          cases hb : (listed.setIfInBounds i true).getD p false with
          | false => rfl
          | true =>
            rcases (hset p).1 hb with e | e
            · omega
            · rw [hpn] at e; cases e
        have low : ∀ k, k < i + 1 → k ≠ p → (listed.setIfInBounds i true).getD k false = true := fun k hk hkp => by
          by_cases hki : k = i
          · exact (hset k).2 (.inl hki)
          · exact (hset k).2 (.inr (hallp k (by omega) hkp))
        have hsz2 : (listed.setIfInBounds i true).size = l.length := by simp [st.lsize]
        have dflt : ∀ k, k < l.length → (listed.setIfInBounds i true).getD k true = (listed.setIfInBounds i true).getD k false := fun k hk => by
          simp [Array.getD, st.lsize, hk]
        have hcnt := unlisted_count (m := l.length) hil h0 (by rw [st.lsize]; exact hil)
        cases fuel with
        | zero =>
          exfalso
          have hz : ((List.range l.length).countP fun k => !(listed.setIfInBounds i true).getD k true) = 0 := by omega
          rw [List.countP_eq_zero] at hz
          have := hz p (by simpa using hpl)
          rw [dflt p hpl, hlp] at this
          simp at this
        | succ fuel =>
          have hrd : p ∈ Region.ready .any l.toArray (listed.setIfInBounds i true) := mem_ready.2 ⟨by rw [dflt p hpl]; exact hlp, l[p], by simp [hpl], fun e he hbd => by
            have := ok.edges p _ hq e he hbd
            exact low _ (by omega) (by omega)⟩
          refine ⟨(fun h0 => by rw [h0] at hrd; cases hrd), fun m hm => ?_⟩
          obtain ⟨hm0, om, hom, hmall⟩ := mem_ready.1 hm
          have hom' : l[m]? = some om := by simpa using hom
          have hml : m < l.length := (List.getElem?_eq_some_iff.1 hom').1
          have hmp : m = p := by
            rcases Nat.lt_or_ge m (i + 1) with h3 | h3
            · by_cases hmp : m = p
              · exact hmp
              · rw [dflt m hml, low m h3 hmp] at hm0; cases hm0
            · exfalso
              have := masks_closed (l := l) (S := fun j => (listed.setIfInBounds i true).getD j false = true) (fun k q hk hq e he hb => by
                rcases (hset k).1 hk with rfl | hk
                · have := ok.edges k q hq e he hb
                  refine (hset _).2 (.inr ?_)
                  rw [ho'] at hq
                  obtain rfl := Option.some.inj hq
                  exact hall e he hb
                · exact (hset _).2 (.inr (st.closed k q hk hq e he hb))) m om hom' hmall p (ok.tail m p hml (by omega) (by omega) (by omega))
              rw [hlp] at this
              cases this
          subst hmp
          refine wpOp_mono (fun a3 w3 h3 => ?_) (list_op hq h2)
          refine wpAny_tailL (n := gs.length) ok.edges ok.tail2 fuel (gs.length + 1) _ a3 w3 (by omega) (by omega) (by simp [st.lsize]) (fun k hk => ?_) ?_ h3
          · by_cases hkm : m = k
            · subst hkm
              simp [st.lsize, hk]; omega
            · rw [getD_set_ne true hkm, dflt k hk, hset k]
              constructor
              · rintro (e | e)
                · omega
                · have := hh k e; omega
              · intro hk1
                by_cases hki : k = i
                · exact .inl hki
                · exact .inr (hallp k (by omega) (fun e => hkm e.symm))
          · have hc2 : ((List.range l.length).countP fun k => !listed.getD k true) ≤ fuel + 1 + 1 := hc
            have : (List.range (gs.length + 1)).countP (fun k => !(listed.setIfInBounds i true).getD k true) + (l.length - (gs.length + 1)) ≤ ((List.range l.length).countP fun k => !(listed.setIfInBounds i true).getD k true) := by
              have hsp : List.range l.length = List.range (gs.length + 1) ++ (List.range (l.length - (gs.length + 1))).map (gs.length + 1 + ·) := by
                rw [show l.length = gs.length + 1 + (l.length - (gs.length + 1)) by omega, List.range_add]
                simp
              rw [hsp, List.countP_append]
              have : ((List.range (l.length - (gs.length + 1))).map (gs.length + 1 + ·)).countP (fun k => !(listed.setIfInBounds i true).getD k true) = l.length - (gs.length + 1) := by
                rw [List.countP_eq_length.2, List.length_map, List.length_range]
                intro k hk
                simp only [List.mem_map, List.mem_range] at hk
                obtain ⟨m', hm', rfl⟩ := hk
                have hlt : gs.length + 1 + m' < l.length := by omega
                have : (listed.setIfInBounds i true).getD (gs.length + 1 + m') false ≠ true := fun h => by
                  rcases (hset _).1 h with e | e
                  · omega
                  · have := hh _ e; omega
                rw [dflt _ hlt]
                simpa using this
              omega
            have hp1 : 1 ≤ (List.range (gs.length + 1)).countP (fun k => !(listed.setIfInBounds i true).getD k true) := by
              refine List.countP_pos_iff.2 ⟨m, by simp; omega, ?_⟩
              rw [dflt m hpl, hlp]; rfl
            omega
      have hg : gs[i]? = some gs[i] := List.getElem?_eq_getElem hig
      obtain ⟨xs, ob, hob, hnew, hxs⟩ := st.vals
      have H := head_step ok hs h st hob hxs ho' hg hun hall hh
      -- what a value in the slot leaves
      have next : ∀ v w', StepOk gs[i] ob w v w' → wpAny P .any l.toArray Q fuel (listed.setIfInBounds i true) (a.put o.dst v) w' := fun v w' hst => by
        have hb := hst.1
        have hst2 := hst.2
        obtain ⟨ob', hob', hnew', hown, hother⟩ : ∃ ob', ObOk ob' w' ∧ (∀ j g, gs[j]? = some g → g.isNew = true → (listed.setIfInBounds i true).getD j false = false → ob' = none) ∧ gs[i].holds v ob' w' ∧ ∀ j g, j ≠ i → gs[j]? = some g → listed.getD j false = true → g.holds (xs j) ob' w' := by
          have unl : ∀ j, (listed.setIfInBounds i true).getD j false = false → listed.getD j false = false := fun j hj => by
            by_cases hij : i = j
            · subst hij; exact hun
            · rw [getD_set_ne false hij] at hj; exact hj
          cases hgi : gs[i] with
          | det c =>
            rw [hgi] at hst2
            exact ⟨ob, fun b e => Nat.lt_of_lt_of_le (hob b e) hb.size, fun j g hj hn hl => hnew j g hj hn (unl j hl), hst2, fun j g _ hj hl => Gd.keep (hxs j g hj hl).1 hb⟩
          | rel G hG hO =>
            rw [hgi] at hst2
            exact ⟨ob, fun b e => Nat.lt_of_lt_of_le (hob b e) hb.size, fun j g hj hn hl => hnew j g hj hn (unl j hl), hst2, fun j g _ hj hl => Gd.keep (hxs j g hj hl).1 hb⟩
          | new G hG =>
            have hin : (gs[i]).isNew = true := by rw [hgi]; rfl
            have hnone := hnew i gs[i] hg hin hun
            rw [hgi] at hst2
            obtain ⟨b, hb1, hb2, hGb⟩ := hst2
            refine ⟨some b, fun b' e => by cases e; exact hb2, fun j g hj hn hl => ?_, ⟨b, rfl, hGb⟩, fun j g hji hj hl => ?_⟩
            · have := newB_one hone hj hg hn hin
              subst this
              have : (listed.setIfInBounds j true).getD j false = true := by simp [st.lsize, hil]
              rw [this] at hl; cases hl
            · have h0 := (hxs j g hj hl).1
              rw [hnone] at h0
              cases hgj : g with
              | det c => rw [hgj] at h0; exact h0
              | rel G' hG' hO' => rw [hgj] at h0; exact hO' _ _ _ _ h0 hb hb1
              | new G' hG' => exact absurd (newB_one hone hj hg (by rw [hgj]; rfl) hin) hji
        have hset : ∀ k, (listed.setIfInBounds i true).getD k false = true → k = i ∨ listed.getD k false = true := fun k hk => by
          by_cases hik : i = k
          · exact .inl hik.symm
          · rw [getD_set_ne false hik] at hk; exact .inr hk
        refine ih _ _ _ ?_ (fun k hk => (hset k hk).elim (fun e => by omega) (hh k)) ?_
        · refine ⟨hC w w' st.inC hb, by rw [put_defers', st.defers], by rw [put_size, st.size], by simp [st.lsize], ?_, ?_, ?_⟩
          · intro k p hk hp e he hbd
            rcases hset k hk with rfl | hk'
            · rw [ho'] at hp
              obtain rfl := Option.some.inj hp
              exact getD_set_true (hall e he hbd)
            · exact getD_set_true (st.closed k p hk' hp e he hbd)
          · refine ⟨fun j => if j = i then v else xs j, ob', hob', hnew', fun j g hgj hj => ?_⟩
            show g.holds (if j = i then v else xs j) ob' w' ∧ _
            by_cases hji : j = i
            · subst hji
              rw [if_pos rfl]
              rw [hg] at hgj
              obtain rfl := Option.some.inj hgj
              refine ⟨hown, fun p d hp hd => ?_⟩
              rw [ho'] at hp
              obtain rfl := Option.some.inj hp
              rw [hd, put_same _ _ _ (by rw [st.size, hs]; exact ok.dst j o d hig ho' hd)]
              simp
            · rw [if_neg hji]
              rcases hset j hj with h' | hj'
              · exact absurd h' hji
              · obtain ⟨h1, h2⟩ := hxs j g hgj hj'
                refine ⟨hother j g hji hgj hj', fun p d hp hd => ?_⟩
                show _ = some (if j = i then v else xs j)
                rw [if_neg hji, put_other, h2 p d hp hd]
                intro hod
                have hjn : j < gs.length := (List.getElem?_eq_some_iff.1 hgj).1
                exact hji (ok.uniq j i p o d hjn hig hp ho' hd hod)
          · intro t ht
            rw [put_other, st.rest t (fun j p hj => ht j p (getD_set_true hj))]
            intro hod
            exact ht i o (by simp [st.lsize, hil]) ho' hod
        · have := unlisted_count (m := l.length) hil h0 (by rw [st.lsize]; exact hil)
          omega
      unfold wpOp
      simp only [ho]
      by_cases hw : Region.wanted o (yielded l.toArray a.tmps) = true
      · rw [if_pos hw] at H
        rw [if_pos hw]
        exact .inl (wp_of_relAt (fun v w' hst => next v w' hst) H)
      · rw [if_neg hw] at H
        rw [if_neg hw]
        exact next undef w ⟨Below.refl _ _, by rw [H]⟩

/-- ONE WALK IN THE ORDER OF THE TEXT SERVES EVERY ORDER. -/
theorem wp_region_rel {id : Nat} {Q : Exit → Act → World → Prop} {a : Act} {w : World} {l : List Oper} (p : Nat) (C : World → Prop) (hm : P.follows .mixedOrders = true)
    (h0 : C w.drew) (hC : ∀ w w', C w → Below w.heap.size w w' → C w')
    (h : ∃ gs, wpRel P l.toArray C Q p gs 0 l a (fun _ _ _ => True) ∧ (relBL l gs.length a.tmps.size p = true ∧ newB gs = true ∧ ∃ c, gs[p]? = some (.det c))) : (Code.region id l.toArray true).wp P Q a w := by
  obtain ⟨gs, h, hB, hone, hdet⟩ := h
  refine wp_region_any hm ?_
  refine wpAny_rel (relBL_ok hB) rfl hone hdet hC h _ _ _ _ ⟨h0, rfl, rfl, by simp, ?_, ⟨fun _ => undef, none, (fun b e => nomatch e), (fun _ _ _ _ _ => rfl), ?_⟩, ?_⟩ ?_ ?_
  · intro k o hk; rw [gD_rep] at hk; cases hk
  · intro j g _ hj; rw [gD_rep] at hj; cases hj
  · intro t _; rfl
  · intro k hk; rw [gD_rep] at hk; cases hk
  · refine Nat.le_trans (List.countP_le_length ..) ?_
    simp

/-- one operation of the head: it yields this value -/
theorem rel_det {C : World → Prop} {Q : Exit → Act → World → Prop} {p : Nat} {gs : List Gd} {i : Nat} {ops : Array Oper} {o : Oper} {l : List Oper} {a : Act} {facts : Nat → Option Nat → World → Prop} {c : Value}
    (hw : Region.wanted o (yielded ops a.tmps) = true) (h1 : ∀ w ob, C w → ObOk ob w → (∀ j, afterB o j = true → facts j ob w) → relAt P o a w (StepOk (.det c) ob w))
    (h2 : ∀ K : Act → Prop, (∀ a, wpRel P ops C Q p gs (i + 1) l a facts → K a) → K (a.put o.dst c)) : wpRel P ops C Q p (.det c :: gs) i (o :: l) a facts :=
  ⟨fun w ob hC hO hF => by rw [if_pos hw]; exact h1 w ob hC hO hF, h2 _ fun _ h => h⟩
/-- one that is not wanted -/
theorem rel_skip {C : World → Prop} {Q : Exit → Act → World → Prop} {p : Nat} {gs : List Gd} {i : Nat} {ops : Array Oper} {o : Oper} {l : List Oper} {a : Act} {facts : Nat → Option Nat → World → Prop}
    (hw : Region.wanted o (yielded ops a.tmps) = false) (h2 : ∀ K : Act → Prop, (∀ a, wpRel P ops C Q p gs (i + 1) l a facts → K a) → K (a.put o.dst undef)) : wpRel P ops C Q p (.det undef :: gs) i (o :: l) a facts :=
  ⟨fun w ob hC hO hF => by rw [if_neg (by rw [hw]; exact Bool.false_ne_true)], h2 _ fun _ h => h⟩
/-- one that yields a value of which so much is known -/
theorem rel_some {C : World → Prop} {Q : Exit → Act → World → Prop} {p : Nat} {gs : List Gd} {i : Nat} {ops : Array Oper} {o : Oper} {l : List Oper} {a : Act} {facts : Nat → Option Nat → World → Prop} {G : Value → Option Nat → World → Prop} {hG : ∀ v ob w w', G v ob w → Below w.heap.size w w' → G v ob w'} {hO : ∀ v w w' b, G v none w → Below w.heap.size w w' → w.heap.size ≤ b → G v (some b) w'}
    (hw : Region.wanted o (yielded ops a.tmps) = true) (h1 : ∀ w ob, C w → ObOk ob w → (∀ j, afterB o j = true → facts j ob w) → relAt P o a w (StepOk (.rel G hG hO) ob w))
    (h2 : ∀ v, ∀ K : Act → Prop, (∀ a, wpRel P ops C Q p gs (i + 1) l a (fun j ob w => if j = i then G v ob w else facts j ob w) → K a) → K (a.put o.dst v)) : wpRel P ops C Q p (.rel G hG hO :: gs) i (o :: l) a facts :=
  ⟨fun w ob hC hO hF => by rw [if_pos hw]; exact h1 w ob hC hO hF, fun v => h2 v _ fun _ h => h⟩
theorem rel_nil {C : World → Prop} {Q : Exit → Act → World → Prop} {p : Nat} {i : Nat} {ops : Array Oper} {l : List Oper} {a : Act} {facts : Nat → Option Nat → World → Prop}
    (h : ∀ w ob, C w → ObOk ob w → (∀ j, facts j ob w) → wpList P ops Q l a w ∧ ∀ o rest q old, l = o :: rest → ops[p]? = some q → ∀ K : Act → Prop, (∀ a, wpList P ops Q (o :: q :: rest) a w → K a) → K (a.put q.dst old)) : wpRel P ops C Q p [] i l a facts := fun w ob h1 h2 h3 => ⟨(h w ob h1 h2 h3).1, fun o rest q old hl hq => (h w ob h1 h2 h3).2 o rest q old hl hq _ fun _ h => h⟩
theorem rel_call {f : FuncId} {args : Array Value} {w : World} {c : Value} {ob : Option Nat} (h : Calls P f args w fun e w' => e = .returned c ∧ Below w.heap.size w w') : Calls P f args w (RetBy (StepOk (.det c) ob w)) :=
  h.mono fun e w' ⟨he, hb⟩ => ⟨c, he, hb, rfl⟩
/-- the one that makes a new block -/
theorem rel_new {C : World → Prop} {Q : Exit → Act → World → Prop} {p : Nat} {gs : List Gd} {i : Nat} {ops : Array Oper} {o : Oper} {l : List Oper} {a : Act} {facts : Nat → Option Nat → World → Prop} {G : Nat → Value → World → Prop} {hG : ∀ b v w w', G b v w → Below w.heap.size w w' → G b v w'}
    (hw : Region.wanted o (yielded ops a.tmps) = true) (h1 : ∀ w ob, C w → ObOk ob w → (∀ j, afterB o j = true → facts j ob w) → relAt P o a w (StepOk (.new G hG) ob w))
    (h2 : ∀ v, ∀ K : Act → Prop, (∀ a, wpRel P ops C Q p gs (i + 1) l a (fun j ob w => if j = i then (∃ b, ob = some b ∧ G b v w) else facts j ob w) → K a) → K (a.put o.dst v)) : wpRel P ops C Q p (.new G hG :: gs) i (o :: l) a facts :=
  ⟨fun w ob hC hO hF => by rw [if_pos hw]; exact h1 w ob hC hO hF, fun v => h2 v _ fun _ h => h⟩
end
end Go.Proofs.Ytkimcgcbdfkobaa.RR
