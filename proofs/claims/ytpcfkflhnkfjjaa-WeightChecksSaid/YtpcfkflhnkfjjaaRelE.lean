/- Regions that draw their order, in whose head one operation may change some blocks: as XRel, with one operation (number e) that may touch the blocks of M. -/
import Derived.Test.YtpcfkflhnkfjjaaRel
set_option linter.unusedVariables false
set_option linter.unusedSimpArgs false
namespace Go.Proofs.Ytpcfkflhnkfjjaa
namespace RE
open Go Go.RowKit

/-- w' is w, with new blocks and with changes in the blocks of M -/
structure Tr (M : Nat → Prop) (w w' : World) : Prop where
  os : w'.os = w.os
  tape : w'.tape = w.tape
  output : w'.output = w.output
  size : w.heap.size ≤ w'.heap.size
  block : ∀ b, b < w.heap.size → ¬ M b → w'.heap[b]? = w.heap[b]?
theorem Tr.refl {M : Nat → Prop} {w : World} : Tr M w w := ⟨rfl, rfl, rfl, Nat.le_refl _, fun _ _ _ => rfl⟩
theorem Tr.trans {M : Nat → Prop} {a b c : World} (h : Tr M a b) (k : Tr M b c) : Tr M a c :=
  ⟨k.os.trans h.os, k.tape.trans h.tape, k.output.trans h.output, Nat.le_trans h.size k.size, fun i hi hm => (k.block i (Nat.lt_of_lt_of_le hi h.size) hm).trans (h.block i hi hm)⟩
theorem Tr.of_grow {M : Nat → Prop} {w w' : World} (h : Below w.heap.size w w') : Tr M w w' := ⟨h.os, h.tape, h.output, h.size, fun b hb _ => h.block b hb⟩
/-- what is known of an operation's value: it is this one, or it has a property that growth keeps -/
inductive Gd (M : Nat → Prop) where
  | det (c : Value)
  | rel (G : Value → World → Prop) (h : ∀ v w w', G v w → Tr M w w' → G v w')
  | relE (G : Value → World → Prop) (h : ∀ v w w', G v w → Below w.heap.size w w' → G v w')
def Gd.isE {M : Nat → Prop} : Gd M → Bool
  | .relE _ _ => true
  | _ => false

def Gd.holds {M : Nat → Prop} : Gd M → Value → World → Prop
  | .det c, v, _ => v = c
  | .rel G _, v, w => G v w
  | .relE G _, v, w => G v w
def Gd.val {M : Nat → Prop} : Gd M → Value → Value
  | .det c, _ => c
  | .rel _ _, v => v
  | .relE _ _, v => v

theorem Gd.val_of {M : Nat → Prop} {g : Gd M} {v : Value} {w : World} (h : g.holds v w) : g.val v = v := by
  cases g with
  | det c => exact h.symm
  | rel G hG => rfl
  | relE G hG => rfl
theorem Gd.keep {M : Nat → Prop} {g : Gd M} {v : Value} {w w' : World} (h : g.holds v w) (hb : Tr M w w') (hn : g.isE = true → Below w.heap.size w w') : g.holds v w' := by
  cases g with
  | det c => exact h
  | rel G hG => exact hG v w w' h hb
  | relE G hG => exact hG v w w' h (hn rfl)

def StepOk {M : Nat → Prop} (ne : Prop) (g : Gd M) (w : World) (v : Value) (w' : World) : Prop := Tr M w w' ∧ g.holds v w' ∧ (ne → Below w.heap.size w w')

def wpRel {M : Nat → Prop} (e : Nat) (D : World → Prop) (P : Program) (ops : Array Oper) (C : World → Prop) (Q : Exit → Act → World → Prop) : List (Gd M) → Nat → List Oper → Act → (Nat → World → Prop) → Prop
  | [], _, l, a, facts => ∀ w, C w → (∀ j, facts j w) → wpList P ops Q l a w
  | g :: gs, i, o :: l, a, facts =>
    (∀ w, C w → (i = e → D w) → (∀ j, afterB o j = true → facts j w) → if Region.wanted o (yielded ops a.tmps) then relAt P o a w (StepOk (i ≠ e) g w) else g.holds undef w) ∧
    (match g with
      | .det c => wpRel e D P ops C Q gs (i + 1) l (a.put o.dst c) facts
      | .rel G _ => ∀ v, wpRel e D P ops C Q gs (i + 1) l (a.put o.dst v) (fun j w => if j = i then G v w else facts j w)
      | .relE G _ => ∀ v, wpRel e D P ops C Q gs (i + 1) l (a.put o.dst v) (fun j w => if j = i then G v w else facts j w))
  | _ :: _, _, [], _, _ => False


section
variable {P : Program}
/-- the frame of the lexical walk -/
def lexA {M : Nat → Prop} (gs : List (Gd M)) (l : List Oper) (xs : Nat → Value) (a0 : Act) : Nat → Act
  | 0 => a0
  | k + 1 => (lexA gs l xs a0 k).put ((l[k]?).bind (·.dst)) ((gs.getD k (.det undef)).val (xs k))

variable {M : Nat → Prop} {e : Nat} {D : World → Prop} {gs : List (Gd M)} {l : List Oper} {xs : Nat → Value} {a0 : Act}

theorem lexA_size (k : Nat) : (lexA gs l xs a0 k).tmps.size = a0.tmps.size := by
  induction k with
  | zero => rfl
  | succ k ih => rw [lexA, put_size, ih]
theorem lexA_defers (k : Nat) : (lexA gs l xs a0 k).defers = a0.defers := by
  induction k with
  | zero => rfl
  | succ k ih => rw [lexA, put_defers', ih]
theorem lexA_other (t : Nat) : ∀ k, (∀ j o, j < k → l[j]? = some o → o.dst ≠ some t) → (lexA gs l xs a0 k).tmps[t]? = a0.tmps[t]?
  | 0, _ => rfl
  | k + 1, h => by
    rw [lexA, put_other, lexA_other t k (fun j o hj => h j o (by omega))]
    intro he
    cases ho : l[k]? with
    | none => simp [ho] at he
    | some o => simp [ho] at he; exact h k o (by omega) ho he
theorem lexA_at {t i : Nat} {oi : Oper} (hi : l[i]? = some oi) (hd : oi.dst = some t) (ht : t < a0.tmps.size) :
    ∀ k, i < k → (∀ j o, j < k → j ≠ i → l[j]? = some o → o.dst ≠ some t) → (lexA gs l xs a0 k).tmps[t]? = some ((gs.getD i (.det undef)).val (xs i))
  | 0, h, _ => by omega
  | k + 1, h, hu => by
    by_cases hik : i = k
    · subst hik
      rw [lexA, hi]
      show ((lexA gs l xs a0 i).put oi.dst _).tmps[t]? = _
      rw [hd, put_same _ _ _ (by rw [lexA_size]; exact ht)]
    · rw [lexA, put_other, lexA_at hi hd ht k (by omega) (fun j o hj => hu j o (by omega))]
      intro he
      cases ho : l[k]? with
      | none => simp [ho] at he
      | some o => simp [ho] at he; exact hu k o (by omega) (by omega) ho he

/-- what the lexical walk gives at operation k, and at the end -/
theorem wpRel_at {ops : Array Oper} {C : World → Prop} {Q : Exit → Act → World → Prop} (hn : gs.length ≤ l.length)
    (h : wpRel e D P ops C Q gs 0 l a0 (fun _ _ => True)) (xs : Nat → Value) : ∀ k, k ≤ gs.length →
    ∃ facts : Nat → World → Prop, (∀ j w, (∀ g, gs[j]? = some g → j < k → g.holds (xs j) w) → facts j w) ∧
      wpRel e D P ops C Q (gs.drop k) k (l.drop k) (lexA gs l xs a0 k) facts
  | 0, _ => ⟨fun _ _ => True, fun _ _ _ => trivial, h⟩
  | k + 1, hk => by
    obtain ⟨facts, hf, hw⟩ := wpRel_at hn h xs k (by omega)
    have hg : gs.drop k = gs[k] :: gs.drop (k + 1) := List.drop_eq_getElem_cons (by omega)
    have hl : l.drop k = l[k] :: l.drop (k + 1) := List.drop_eq_getElem_cons (by omega)
    rw [hg, hl] at hw
    have ha : lexA gs l xs a0 (k + 1) = (lexA gs l xs a0 k).put l[k].dst (gs[k].val (xs k)) := by
      rw [lexA, List.getElem?_eq_getElem (by omega)]
      simp [List.getD, List.getElem?_eq_getElem (show k < gs.length by omega)]
    rw [ha]
    have h2 := hw.2
    cases hgk : gs[k] with
    | det c =>
      rw [hgk] at h2
      exact ⟨facts, fun j w hj => hf j w fun g hg' hlt => hj g hg' (by omega), h2⟩
    | rel G hG =>
      rw [hgk] at h2
      refine ⟨_, fun j w hj => ?_, h2 (xs k)⟩
      show if j = k then G (xs k) w else facts j w
      by_cases hjk : j = k
      · rw [if_pos hjk]
        subst hjk
        have := hj gs[j] (List.getElem?_eq_getElem (by omega)) (by omega)
        rw [hgk] at this
        exact this
      · rw [if_neg hjk]
        exact hf j w fun g hg' hlt => hj g hg' (by omega)
    | relE G hG =>
      rw [hgk] at h2
      refine ⟨_, fun j w hj => ?_, h2 (xs k)⟩
      show if j = k then G (xs k) w else facts j w
      by_cases hjk : j = k
      · rw [if_pos hjk]
        subst hjk
        have := hj gs[j] (List.getElem?_eq_getElem (by omega)) (by omega)
        rw [hgk] at this
        exact this
      · rw [if_neg hjk]
        exact hf j w fun g hg' hlt => hj g hg' (by omega)

/-- the state of a region whose head is under way -/
structure HeadSt {M : Nat → Prop} (e : Nat) (D : World → Prop) (gs : List (Gd M)) (l : List Oper) (C : World → Prop) (a0 : Act) (listed : Array Bool) (a : Act) (w : World) : Prop where
  inC : C w
  inD : listed.getD e false = false → D w
  defers : a.defers = a0.defers
  size : a.tmps.size = a0.tmps.size
  lsize : listed.size = l.length
  closed : ∀ k o, listed.getD k false = true → l[k]? = some o → ∀ e ∈ o.after, Region.binds .any e = true → listed.getD e.on false = true
  vals : ∃ xs : Nat → Value, ∀ j g, gs[j]? = some g → listed.getD j false = true → g.holds (xs j) w ∧ ∀ o d, l[j]? = some o → o.dst = some d → a.tmps[d]? = some (xs j)
  rest : ∀ t, (∀ j o, listed.getD j false = true → l[j]? = some o → o.dst ≠ some t) → a.tmps[t]? = a0.tmps[t]?

/-- one operation of the head, at a state of the region -/
theorem head_step {C : World → Prop} {Q : Exit → Act → World → Prop} {s : Nat} (ok : RelOk l gs.length s) (hs : a0.tmps.size = s)
    (h : wpRel e D P l.toArray C Q gs 0 l a0 (fun _ _ => True)) {listed : Array Bool} {a : Act} {w : World} (st : HeadSt e D gs l C a0 listed a w)
    {i : Nat} {o : Oper} {g : Gd M} (ho : l[i]? = some o) (hg : gs[i]? = some g) (hun : listed.getD i false = false)
    (hready : ∀ e ∈ o.after, Region.binds .any e = true → listed.getD e.on false = true) :
    if Region.wanted o (yielded l.toArray a.tmps) then relAt P o a w (StepOk (i ≠ e) g w) else g.holds undef w := by
  have hig : i < gs.length := (List.getElem?_eq_some_iff.1 hg).1
  obtain ⟨xs, hxs⟩ := st.vals
  obtain ⟨facts, hf, hw⟩ := wpRel_at ok.len h xs i (by omega)
  have hdg : gs.drop i = g :: gs.drop (i + 1) := by
    rw [List.drop_eq_getElem_cons (by omega)]
    congr 1
    rw [List.getElem?_eq_getElem hig] at hg
    exact Option.some.inj hg
  have hil : i < l.length := (List.getElem?_eq_some_iff.1 ho).1
  have hdl : l.drop i = o :: l.drop (i + 1) := by
    rw [List.drop_eq_getElem_cons hil]
    congr 1
    rw [List.getElem?_eq_getElem hil] at ho
    exact Option.some.inj ho
  rw [hdg, hdl] at hw
  have H := hw.1 w st.inC (fun he => st.inD (he ▸ hun)) (fun j hj => hf j w fun gj hgj hlt => by
    obtain ⟨e, he, hon, hb⟩ := afterB_iff.1 hj
    have := hready e he hb
    rw [hon] at this
    exact (hxs j gj hgj this).1)
  have same : ∀ t ∈ o.looksAt l.toArray, a.tmps[t]? = (lexA gs l xs a0 i).tmps[t]? := fun t ht => by
    by_cases hex : ∃ j p, j < gs.length ∧ j ≠ i ∧ l[j]? = some p ∧ p.dst = some t
    · obtain ⟨j, p, hjn, hji, hp, hpd⟩ := hex
      have hts : t < a0.tmps.size := by rw [hs]; exact ok.dst j p t hjn hp hpd
      rcases ok.looks i j o p t hig hjn (Ne.symm hji) ho hp ht hpd with hA | hA
      · obtain ⟨e, he, hon, hb⟩ := afterB_iff.1 hA
        have hlist := hready e he hb
        rw [hon] at hlist
        have hlt : j < i := by have := ok.edges i o ho e he hb; omega
        have hgj : gs[j]? = some gs[j] := List.getElem?_eq_getElem hjn
        obtain ⟨hh, hv⟩ := hxs j _ hgj hlist
        rw [hv p t hp hpd, lexA_at hp hpd hts i hlt (fun k q hk hkj hq hqd => hkj (ok.uniq k j q p t (by omega) hjn hq hp hqd hpd))]
        simp [List.getD, hgj, Gd.val_of hh]
      · obtain ⟨e, he, hon, hb⟩ := afterB_iff.1 hA
        have hlt : i < j := by have := ok.edges j p hp e he hb; omega
        rw [st.rest t (fun k q hk hq hqd => ?_), lexA_other t i (fun k q hk hq hqd => ?_)]
        · have := ok.uniq k j q p t (by omega) hjn hq hp hqd hpd
          omega
        · have hkn : k < gs.length ∨ ¬ k < gs.length := by omega
          rcases hkn with hkn | hkn
          · have hkj := ok.uniq k j q p t hkn hjn hq hp hqd hpd
            subst hkj
            rw [hp] at hq
            obtain rfl := Option.some.inj hq
            have := st.closed k p hk hp e he hb
            rw [hon, hun] at this
            cases this
          · exfalso
            have hkl : k < l.length := (List.getElem?_eq_some_iff.1 hq).1
            have hik := masks_closed (l := l) (S := fun j => listed.getD j false = true) (fun m p hm hp e he hb => st.closed m p hm hp e he hb) k q hq
              (fun e he hb => st.closed k q hk hq e he hb) i (ok.tail k i hkl (by omega) (by omega))
            rw [hun] at hik
            cases hik
    · rw [st.rest t (fun k q hk hq hqd => ?_), lexA_other t i (fun k q hk hq hqd => hex ⟨k, q, by omega, by omega, hq, hqd⟩)]
      have hki : k ≠ i := by rintro rfl; rw [hun] at hk; cases hk
      have hkn : k < gs.length ∨ ¬ k < gs.length := by omega
      rcases hkn with hkn | hkn
      · exact hex ⟨k, q, hkn, hki, hq, hqd⟩
      · have hkl : k < l.length := (List.getElem?_eq_some_iff.1 hq).1
        have hik := masks_closed (l := l) (S := fun j => listed.getD j false = true) (fun m p hm hp e he hb => st.closed m p hm hp e he hb) k q hq
          (fun e he hb => st.closed k q hk hq e he hb) i (ok.tail k i hkl (by omega) (by omega))
        rw [hun] at hik
        cases hik
  rw [wanted_of_same same]
  unfold relAt at H ⊢
  rw [execOp_of_same (Region.noSelect_spec ok.sel i o · · (by simpa using ho)) same]
  exact H

theorem head_end {C : World → Prop} {Q : Exit → Act → World → Prop} {s : Nat} (ok : RelOk l gs.length s) (hs : a0.tmps.size = s)
    (h : wpRel e D P l.toArray C Q gs 0 l a0 (fun _ _ => True)) {listed : Array Bool} {a : Act} {w : World} (st : HeadSt e D gs l C a0 listed a w)
    (hall : ∀ i, i < gs.length → listed.getD i false = true) (hh : ∀ k, listed.getD k false = true → k < gs.length) : wpList P l.toArray Q (l.drop gs.length) a w := by
  obtain ⟨xs, hxs⟩ := st.vals
  obtain ⟨facts, hf, hw⟩ := wpRel_at ok.len h xs gs.length (Nat.le_refl _)
  rw [List.drop_length] at hw
  have H : wpList P l.toArray Q (l.drop gs.length) (lexA gs l xs a0 gs.length) w := hw w st.inC (fun j => hf j w fun gj hgj hlt => (hxs j gj hgj (hall j hlt)).1)
  have hee : a = lexA gs l xs a0 gs.length := by
    refine act_ext (by rw [lexA_size, st.size]) (fun t => ?_) (by rw [lexA_defers, st.defers])
    by_cases hex : ∃ j p, j < gs.length ∧ l[j]? = some p ∧ p.dst = some t
    · obtain ⟨j, p, hjn, hp, hpd⟩ := hex
      have hts : t < a0.tmps.size := by rw [hs]; exact ok.dst j p t hjn hp hpd
      have hgj : gs[j]? = some gs[j] := List.getElem?_eq_getElem hjn
      obtain ⟨h1, h2⟩ := hxs j _ hgj (hall j hjn)
      rw [h2 p t hp hpd, lexA_at hp hpd hts gs.length hjn (fun k q hk hkj hq hqd => hkj (ok.uniq k j q p t hk hjn hq hp hqd hpd))]
      simp [List.getD, hgj, Gd.val_of h1]
    · rw [st.rest t (fun k q hk hq hqd => hex ⟨k, q, hh k hk, hq, hqd⟩), lexA_other t gs.length (fun k q hk hq hqd => hex ⟨k, q, hk, hq, hqd⟩)]
  rw [hee]
  exact H

theorem wpAny_rel (hE : ∀ (j : Nat) (g : Gd M), gs[j]? = some g → g.isE = true → j = e) {C : World → Prop} {Q : Exit → Act → World → Prop} {s : Nat} (ok : RelOk l gs.length s) (hs : a0.tmps.size = s)
    (hC : ∀ w w', C w → Tr M w w' → C w') (hD : ∀ w w', D w → Below w.heap.size w w' → D w') (h : wpRel e D P l.toArray C Q gs 0 l a0 (fun _ _ => True)) :
    ∀ (fuel : Nat) (listed : Array Bool) (a : Act) (w : World), HeadSt e D gs l C a0 listed a w → (∀ k, listed.getD k false = true → k < gs.length) →
      ((List.range l.length).countP fun k => !listed.getD k true) ≤ fuel → wpAny P .any l.toArray Q fuel listed a w := by
  intro fuel
  induction fuel with
  | zero =>
    intro listed a w st hh hc
    -- everything is listed: the head is the whole
    have hall : ∀ i, i < l.length → listed.getD i false = true := fun i hi => by
      have h0 : ((List.range l.length).countP fun k => !listed.getD k true) = 0 := by omega
      rw [List.countP_eq_zero] at h0
      have := h0 i (by simpa using hi)
      simp [st.lsize, hi] at this ⊢
      exact this
    have hn : gs.length = l.length := by
      have := ok.len
      rcases Nat.lt_or_ge gs.length l.length with h' | h'
      · have := hh gs.length (hall _ h'); omega
      · omega
    exact wpAny_tail ok 0 l.length listed a w (by omega) (Nat.le_refl _) st.lsize (fun i hi => ⟨fun _ => hi, fun _ => by
      have := hall i hi
      simp [st.lsize, hi] at this ⊢
      exact this⟩) (by omega) (by
      have H := head_end ok hs h st (fun i hi => hall i (by omega)) hh
      rwa [hn] at H)
  | succ fuel ih =>
    intro listed a w st hh hc
    by_cases hdone : ∀ i, i < gs.length → listed.getD i false = true
    · refine wpAny_tail ok (fuel + 1) gs.length listed a w (Nat.le_refl _) ok.len st.lsize (fun i hi => ⟨fun hl => hh i (by
        simp [st.lsize, hi] at hl ⊢
        exact hl), fun hig => by
        have := hdone i hig
        simp [st.lsize, hi] at this ⊢
        exact this⟩) ?_ (head_end ok hs h st hdone hh)
      refine Nat.le_trans ?_ hc
      rw [show l.length = gs.length + (l.length - gs.length) by have := ok.len; omega, List.range_add, List.countP_append]
      have : ((List.range (l.length - gs.length)).map (gs.length + ·)).countP (fun k => !listed.getD k true) = l.length - gs.length := by
        rw [List.countP_eq_length.2, List.length_map, List.length_range]
        intro k hk
        simp only [List.mem_map, List.mem_range] at hk
        obtain ⟨m, hm, rfl⟩ := hk
        have hlt : gs.length + m < l.length := by omega
        have : listed.getD (gs.length + m) false ≠ true := fun h => by have := hh _ h; omega
        simp [st.lsize, hlt] at this ⊢
        exact this
      omega
    · have hne : Region.ready .any l.toArray listed ≠ [] := by
        -- the least one that is not listed is ready
        have hex : ∃ i, i < gs.length ∧ listed.getD i false = false ∧ ∀ j, j < i → listed.getD j false = true := by
          have : ∃ i, i < gs.length ∧ listed.getD i false = false := by
            simp only [Classical.not_forall] at hdone
            obtain ⟨i, hi, hb⟩ := hdone
            exact ⟨i, hi, by simpa using hb⟩
          obtain ⟨i, hi, hb⟩ := this
          induction i using Nat.strongRecOn with
          | _ i ihi =>
            by_cases hall : ∀ j, j < i → listed.getD j false = true
            · exact ⟨i, hi, hb, hall⟩
            · simp only [Classical.not_forall] at hall
              obtain ⟨j, hj, hjb⟩ := hall
              exact ihi j hj (by omega) (by simpa using hjb)
        obtain ⟨i, hi, hb, hall⟩ := hex
        have hil : i < l.length := by have := ok.len; omega
        have : i ∈ Region.ready .any l.toArray listed := mem_ready.2 ⟨by
          simp [st.lsize, hil] at hb ⊢
          exact hb, l[i], by simp [hil], fun e he hbd => hall _ (ok.edges i _ (List.getElem?_eq_getElem hil) e he hbd)⟩
        intro h0
        rw [h0] at this
        cases this
      refine ⟨fun h0 => absurd h0 hne, fun i hi => ?_⟩
      obtain ⟨h0, o, ho, hall⟩ := mem_ready.1 hi
      have ho' : l[i]? = some o := by simpa using ho
      have hil : i < l.length := (List.getElem?_eq_some_iff.1 ho').1
      have hun := gD_both h0
      have hig : i < gs.length := by
        rcases Nat.lt_or_ge i gs.length with h' | h'
        · exact h'
        · exfalso
          apply hdone
          intro j hj
          exact masks_closed (l := l) (S := fun j => listed.getD j false = true) (fun m p hm hp e he hb => st.closed m p hm hp e he hb) i o ho' hall j (ok.tail i j hil h' (by omega))
      have hg : gs[i]? = some gs[i] := List.getElem?_eq_getElem hig
      have H := head_step ok hs h st ho' hg hun hall
      -- what a value in the slot leaves
      have next : ∀ v w', Tr M w w' → (i ≠ e → Below w.heap.size w w') → gs[i].holds v w' → wpAny P .any l.toArray Q fuel (listed.setIfInBounds i true) (a.put o.dst v) w' := fun v w' hb hgd hv => by
        have hset : ∀ k, (listed.setIfInBounds i true).getD k false = true → k = i ∨ listed.getD k false = true := fun k hk => by
          by_cases hik : i = k
          · exact .inl hik.symm
          · rw [getD_set_ne false hik] at hk; exact .inr hk
        refine ih _ _ _ ?_ (fun k hk => (hset k hk).elim (fun e => by omega) (hh k)) ?_
        · refine ⟨hC w w' st.inC hb, ?_, by rw [put_defers', st.defers], by rw [put_size, st.size], by simp [st.lsize], ?_, ?_, ?_⟩
          · intro hle
            have hie : i ≠ e := fun h => by
              subst h
              have hsz := st.lsize
              simp [hsz, hil] at hle
            rw [getD_set_ne false hie] at hle
            exact hD w w' (st.inD hle) (hgd hie)
          · intro k p hk hp e he hbd
            rcases hset k hk with rfl | hk'
            · rw [ho'] at hp
              obtain rfl := Option.some.inj hp
              exact getD_set_true (hall e he hbd)
            · exact getD_set_true (st.closed k p hk' hp e he hbd)
          · obtain ⟨xs, hxs⟩ := st.vals
            refine ⟨fun j => if j = i then v else xs j, fun j g hgj hj => ?_⟩
            show g.holds (if j = i then v else xs j) w' ∧ _
            by_cases hji : j = i
            · subst hji
              rw [if_pos rfl]
              rw [hg] at hgj
              obtain rfl := Option.some.inj hgj
              refine ⟨hv, fun p d hp hd => ?_⟩
              rw [ho'] at hp
              obtain rfl := Option.some.inj hp
              rw [hd, put_same _ _ _ (by rw [st.size, hs]; exact ok.dst j o d hig ho' hd)]
              simp
            · rw [if_neg hji]
              rcases hset j hj with h' | hj'
              · exact absurd h' hji
              · obtain ⟨h1, h2⟩ := hxs j g hgj hj'
                refine ⟨Gd.keep h1 hb fun hg => hgd fun hie => hji ((hE j g hgj hg).trans hie.symm), fun p d hp hd => ?_⟩
                show _ = some (if j = i then v else xs j)
                rw [if_neg hji, put_other, h2 p d hp hd]
                intro hod
                have hjn : j < gs.length := (List.getElem?_eq_some_iff.1 hgj).1
                exact hji (ok.uniq j i p o d hjn hig hp ho' hd hod)
          · intro t ht
            rw [put_other, st.rest t (fun j p hj => ht j p (getD_set_true hj))]
            intro hod
            exact ht i o (by simp [st.lsize, hil]) ho' hod
        · have := unlisted_count (m := l.length) hil h0 (by rw [st.lsize]; exact hil)
          omega
      unfold wpOp
      simp only [ho]
      by_cases hw : Region.wanted o (yielded l.toArray a.tmps) = true
      · rw [if_pos hw] at H
        rw [if_pos hw]
        exact .inl (wp_of_relAt (fun v w' ⟨hb, hv, hd⟩ => next v w' hb hd hv) H)
      · rw [if_neg hw] at H
        rw [if_neg hw]
        exact next undef w Tr.refl (fun _ => Below.refl _ _) H

/-- ONE WALK IN THE ORDER OF THE TEXT SERVES EVERY ORDER. -/
theorem wp_region_rel (e : Nat) {M : Nat → Prop} (D : World → Prop) {id : Nat} {Q : Exit → Act → World → Prop} {a : Act} {w : World} {l : List Oper} (C : World → Prop) (hm : P.follows .mixedOrders = true)
    (h0 : C w.drew) (h0D : D w.drew) (hC : ∀ w w', C w → Tr M w w' → C w') (hD : ∀ w w', D w → Below w.heap.size w w' → D w')
    (h : ∃ gs : List (Gd M), (∀ (j : Nat) (g : Gd M), gs[j]? = some g → g.isE = true → j = e) ∧ wpRel e D P l.toArray C Q gs 0 l a (fun _ _ => True) ∧ relB l gs.length a.tmps.size = true) : (Code.region id l.toArray true).wp P Q a w := by
  obtain ⟨gs, hE, h, hB⟩ := h
  refine wp_region_any hm ?_
  refine wpAny_rel hE (relB_ok hB) rfl hC hD h _ _ _ _ ⟨h0, fun _ => h0D, rfl, rfl, by simp, ?_, ⟨fun _ => undef, ?_⟩, ?_⟩ ?_ ?_
  · intro k o hk; rw [gD_rep] at hk; cases hk
  · intro j g _ hj; rw [gD_rep] at hj; cases hj
  · intro t _; rfl
  · intro k hk; rw [gD_rep] at hk; cases hk
  · refine Nat.le_trans (List.countP_le_length ..) ?_
    simp

end
end RE
end Go.Proofs.Ytpcfkflhnkfjjaa
