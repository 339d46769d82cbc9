/- Values: the order and the checks, without the program's own comparison. -/
import Derived.Test.YtijkipikefpopaaDoorPl
import Derived.Test.YtijkipikefpopaaDoorZE
import Derived.Test.YtijkipikefpopaaDoorOpo
set_option linter.unusedVariables false
set_option linter.unusedSimpArgs false
namespace Go.Proofs.YtijkipikefpopaaDoor
open Go Go.RowKit
mutual
def wideV (B : Nat) : Va → Prop
  | .mk _ _ _ l => l.length ≤ B ∧ wideVs B l
def wideVs (B : Nat) : List Va → Prop
  | [] => True
  | x :: l => wideV B x ∧ wideVs B l
end
theorem depVs_mem : ∀ {l : List Va} {x : Va}, x ∈ l → depV x ≤ depVs l
  | y :: l, x, h => by
    simp only [depVs]
    rcases List.mem_cons.1 h with rfl | h
    · exact Nat.le_max_left _ _
    · exact Nat.le_trans (depVs_mem h) (Nat.le_max_right _ _)
theorem wideVs_mem {B : Nat} : ∀ {l : List Va} {x : Va}, wideVs B l → x ∈ l → wideV B x
  | y :: l, x, hw, h => by
    rcases List.mem_cons.1 h with rfl | h
    · exact hw.1
    · exact wideVs_mem hw.2 h
theorem dep_items {v : Va} {x : Va} (h : x ∈ v.items) : depV x < depV v := by
  cases v; exact Nat.lt_succ_of_le (depVs_mem h)
theorem wide_items {B : Nat} {v : Va} (h : wideV B v) : v.items.length ≤ B ∧ ∀ x ∈ v.items, wideV B x := by
  cases v; exact ⟨h.1, fun x hx => wideVs_mem h.2 hx⟩

theorem cmpV_eta (x y : Va) : cmpV x y = if x.type < y.type then -1 else if y.type < x.type then 1 else if x.num < y.num then -1 else if y.num < x.num then 1 else if lessB x.text y.text = true then -1 else if lessB y.text x.text = true then 1 else cmpVs x.items y.items := by
  cases x; cases y; rw [cmpV]; rfl
theorem refSign (b : Bool) : synthesisref01_sign b = some (if b = true then -1 else 1) := by cases b <;> rfl
def outR : List Va → List Va → Unit ⊕ Int
  | x :: l, y :: m => if cmpV x y ≠ 0 then .inr (cmpV x y) else outR l m
  | _, _ => .inl ()
theorem outR_spec : ∀ l m : List Va, Sum.elim (fun _ => if (l.length : Int) = (m.length : Int) then 0 else if (l.length : Int) < (m.length : Int) then -1 else (1 : Int)) id (outR l m) = cmpVs l m
  | [], [] => rfl
  | [], y :: m => by
    simp only [outR, cmpVs, Sum.elim_inl, List.length_nil, List.length_cons]
    rw [if_neg (by omega), if_pos (by omega)]
  | x :: l, [] => by
    simp only [outR, cmpVs, Sum.elim_inl, List.length_nil, List.length_cons]
    rw [if_neg (by omega), if_neg (by omega)]
  | x :: l, y :: m => by
    have ih := outR_spec l m
    rw [outR, cmpVs]
    by_cases h : cmpV x y ≠ 0
    · rw [if_pos h, if_pos h]; rfl
    · rw [if_neg h, if_neg h, ← ih]
      simp
theorem ref_Compare_eq : ∀ (n : Nat), (∀ x y : Va, 2 * depV x < n + 1 → wideV 9223372036854775807 x → wideV 9223372036854775807 y → synthesisref01_Compare n x y = some (cmpV x y)) ∧
    ∀ l m : List Va, 2 * depVs l < n → l.length ≤ 9223372036854775807 → m.length ≤ 9223372036854775807 → (∀ x ∈ l, wideV 9223372036854775807 x) → (∀ x ∈ m, wideV 9223372036854775807 x) → synthesisref01_CompareAll n l m = some (cmpVs l m)
  | 0 => ⟨fun x y h => by cases x; simp [depV] at h, fun l m h => by omega⟩
  | n + 1 => by
    obtain ⟨ih1, ih2⟩ := ref_Compare_eq n
    refine ⟨fun x y hd hx hy => ?_, fun l m hd hl hm wl wm => ?_⟩
    · show synthesisref01_Compare_b (synthesisref01_Compare n) (synthesisref01_CompareAll n) x y = _
      obtain ⟨lx, wx⟩ := wide_items hx
      obtain ⟨ly, wy⟩ := wide_items hy
      have hA := ih2 x.items y.items (by cases x; simp only [depV, Va.items] at hd ⊢; omega) lx ly wx wy
      rw [cmpV_eta]
      unfold synthesisref01_Compare_b
      by_cases h1 : x.type = y.type
      · have b1 : (x.type != y.type) = false := by simp [h1]
        rw [if_neg (by omega), if_neg (by omega)]
        by_cases h2 : x.num = y.num
        · have b2 : (x.num != y.num) = false := by simp [h2]
          rw [if_neg (by omega), if_neg (by omega)]
          by_cases h3 : x.text.toList = y.text.toList
          · have b3 : (!(x.text.toList == y.text.toList)) = false := by simp [h3]
            have e1 : lessB x.text y.text = false := by unfold lessB; rw [h3]; exact bytes_self _
            have e2 : lessB y.text x.text = false := by unfold lessB; rw [h3]; exact bytes_self _
            rw [e1, e2, b1, b2, b3]
            simp [hA]
          · have b3 : (!(x.text.toList == y.text.toList)) = true := by simp [h3]
            rw [b1, b2, b3]
            simp only [cond_false, cond_true, refSign, Option.bind_some]
            cases h4 : lessB x.text y.text with
            | true =>
              have : Op.bytesLess x.text.toList y.text.toList = true := h4
              simp [this]
            | false =>
              have h4' : Op.bytesLess x.text.toList y.text.toList = false := h4
              cases h5 : lessB y.text x.text with
              | true => simp [h4']
              | false => exact absurd (bytes_eq _ _ h4' h5) h3
        · have b2 : (x.num != y.num) = true := by simp [h2]
          rw [b1, b2]
          simp only [cond_false, cond_true, refSign, Option.bind_some]
          by_cases h4 : x.num < y.num
          · simp [h4]
          · have : y.num < x.num := by omega
            simp [h4, this]
      · have b1 : (x.type != y.type) = true := by simp [h1]
        rw [b1]
        simp only [cond_false, cond_true, refSign, Option.bind_some]
        by_cases h4 : x.type < y.type
        · simp [h4]
        · have : y.type < x.type := by omega
          simp [h4, this]
    · show synthesisref01_CompareAll_b (synthesisref01_Compare n) (synthesisref01_CompareAll n) l m = _
      obtain ⟨k, hk⟩ : ∃ k, k = Nat.min l.length m.length := ⟨_, rfl⟩
      have hkl : k ≤ l.length := hk ▸ Nat.min_le_left _ _
      have hkm : k ≤ m.length := hk ▸ Nat.min_le_right _ _
      have hkk : k = l.length ∨ k = m.length := by
        rw [hk]
        rcases Nat.le_total l.length m.length with h | h
        · exact .inl (Nat.min_eq_left h)
        · exact .inr (Nat.min_eq_right h)
      have hl := loop_fuel (step := synthesisref01_CompareAll_l1 l m (synthesisref01_Compare n)) k (by omega) (fun i => (i : Int)) (fun i => outR (l.drop i) (m.drop i)) (fun i hi => by
        have hix : i < l.length := by omega
        have hj : i < m.length := by omega
        have e1 : l[i]? = some l[i] := List.getElem?_eq_getElem hix
        have d1 : l.drop i = l[i] :: l.drop (i + 1) := List.drop_eq_getElem_cons hix
        have hw := w64_succ (n := i) (by omega)
        have e2 : m[i]? = some m[i] := List.getElem?_eq_getElem hj
        have d2 : m.drop i = m[i] :: m.drop (i + 1) := List.drop_eq_getElem_cons hj
        have b1 : decide ((i : Int) < (l.length : Int)) = true := decide_eq_true (by omega)
        have b0 : decide ((i : Int) < (m.length : Int)) = true := decide_eq_true (by omega)
        have hc := ih1 l[i] m[i] (by have := depVs_mem (List.getElem_mem hix); omega) (wl _ (List.getElem_mem hix)) (wm _ (List.getElem_mem hj))
        by_cases h0 : cmpV l[i] m[i] = 0
        · have b2 : (cmpV l[i] m[i] != 0) = false := by rw [h0]; rfl
          refine .inl ⟨?_, ?_⟩
          · simp only [synthesisref01_CompareAll_l1, b1, b0, idx_nat, e1, e2, hc, b2, hw, cond_true, cond_false, Option.bind_some]
          · simp only [d1, d2, outR, h0, ne_eq, not_true_eq_false, if_false]
        · have b2 : (cmpV l[i] m[i] != 0) = true := by simpa using h0
          refine .inr ?_
          simp only [d1, d2, outR, ne_eq, h0, not_false_eq_true, if_true, synthesisref01_CompareAll_l1, b1, b0, idx_nat, e1, e2, hc, b2, hw, cond_true, cond_false, Option.bind_some]) (by
        by_cases hlx : k = l.length
        · have d1 : l.drop k = [] := List.drop_eq_nil_of_le (by omega)
          have b1 : decide ((k : Int) < (l.length : Int)) = false := decide_eq_false (by omega)
          simp only [d1, outR, synthesisref01_CompareAll_l1, b1, cond_false, Option.bind_some]
        · have hkm2 : k = m.length := hkk.resolve_left hlx
          have d2 : m.drop k = [] := List.drop_eq_nil_of_le (by omega)
          have b1 : decide ((k : Int) < (l.length : Int)) = true := decide_eq_true (by omega)
          have b0 : decide ((k : Int) < (m.length : Int)) = false := decide_eq_false (by omega)
          have : outR (l.drop k) (m.drop k) = .inl () := by rw [d2]; cases l.drop k <;> rfl
          simp only [this, synthesisref01_CompareAll_l1, b1, b0, cond_true, cond_false, Option.bind_some])
      have hl' : loopN (synthesisref01_CompareAll_l1 l m (synthesisref01_Compare n)) fuel 0 = some (outR l m) := by simpa using hl
      unfold synthesisref01_CompareAll_b
      rw [hl', Option.bind_some, ← outR_spec l m]
      cases outR l m with
      | inl u =>
        simp only [Sum.elim_inl, refSign, Option.bind_some]
        by_cases h1 : (l.length : Int) = (m.length : Int)
        · simp [h1]
        · by_cases h2 : (l.length : Int) < (m.length : Int)
          · rw [if_neg h1, if_pos h2, decide_eq_true h2, beq_eq_false_iff_ne.2 h1]; rfl
          · rw [if_neg h1, if_neg h2, decide_eq_false h2, beq_eq_false_iff_ne.2 h1]; rfl
      | inr c => rfl
def okV (v : Va) : Prop := depV v ≤ 1000000 ∧ wideV 9223372036854775807 v
theorem ref_Equal_eq {x y : Va} (hx : okV x) (hy : okV y) : synthesisref01_Equal x y = some (eqV x y) := by
  unfold synthesisref01_Equal
  rw [(ref_Compare_eq fuel).1 x y (Nat.lt_succ_of_lt (lt_fuel (by have := hx.1; omega))) hx.2 hy.2]
  simp only [Option.bind_some, eqV]
  by_cases h : cmpV x y = 0 <;> simp [h]
theorem byt_list (s : ByteArray) (n : Nat) : byt s (n : Int) = (s.data.toList[n]?).map fun c => (c.toNat : Int) := by
  rw [byt_nat]
  congr 1
  by_cases h : n < s.size
  · rw [getElem?_pos s n h]
    have h' : n < s.data.size := h
    rw [Array.getElem?_toList, Array.getElem?_eq_getElem h']
    rfl
  · rw [getElem?_neg s n h]
    have h' : ¬ n < s.data.size := h
    rw [Array.getElem?_toList, Array.getElem?_eq_none (by omega)]
theorem size_list (s : ByteArray) : s.size = s.data.toList.length := by rw [Array.length_toList]; rfl
def goodB (c : UInt8) : Bool := decide (32 ≤ c.toNat) && decide (c.toNat ≤ 126)
theorem bad_iff (c : UInt8) : (bif decide ((c.toNat : Int) < 32) then some true else (some (decide (126 < (c.toNat : Int))) : Option Bool)) = some (!goodB c) := by
  unfold goodB
  by_cases h : c.toNat < 32
  · have h1 : decide ((c.toNat : Int) < 32) = true := decide_eq_true (by omega)
    have h2 : decide (32 ≤ c.toNat) = false := decide_eq_false (by omega)
    rw [h1, h2]; rfl
  · have h1 : decide ((c.toNat : Int) < 32) = false := decide_eq_false (by omega)
    have h2 : decide (32 ≤ c.toNat) = true := decide_eq_true (by omega)
    rw [h1, h2]
    by_cases h3 : c.toNat ≤ 126
    · have h4 : decide (126 < (c.toNat : Int)) = false := decide_eq_false (by omega)
      rw [h4, decide_eq_true h3]; rfl
    · have h4 : decide (126 < (c.toNat : Int)) = true := decide_eq_true (by omega)
      rw [h4, decide_eq_false h3]; rfl
theorem value_printed_eq (s : ByteArray) (hs : s.size ≤ 9223372036854775807) : value_printed s = some (s.data.toList.all goodB) := by
  have hl := loop_fuel (step := value_printed_l1 s) s.size (by omega) (fun i => (i : Int)) (fun i => if (s.data.toList.drop i).all goodB = true then .inl () else .inr false) (fun i hi => by
    have hi' : i < s.data.toList.length := by rw [← size_list]; exact hi
    have e1 : byt s (i : Int) = some (s.data.toList[i].toNat : Int) := by rw [byt_list, List.getElem?_eq_getElem hi']; rfl
    have d1 : s.data.toList.drop i = s.data.toList[i] :: s.data.toList.drop (i + 1) := List.drop_eq_getElem_cons hi'
    have b1 : decide ((i : Int) < (s.size : Int)) = true := decide_eq_true (by omega)
    have hw := w64_succ (n := i) (by omega)
    cases hg : goodB s.data.toList[i] with
    | true =>
      refine .inl ⟨?_, ?_⟩
      · simp only [value_printed_l1, b1, e1, cond_true, Option.bind_some, bad_iff, hg, Bool.not_true, cond_false, hw]
      · simp only [d1, List.all_cons, hg, Bool.true_and]
    | false =>
      refine .inr ?_
      simp only [value_printed_l1, b1, e1, cond_true, Option.bind_some, bad_iff, hg, Bool.not_false, d1, List.all_cons, Bool.false_and, Bool.false_eq_true, if_false]) (by
    have b1 : decide ((s.size : Int) < (s.size : Int)) = false := decide_eq_false (by omega)
    have d1 : s.data.toList.drop s.size = [] := List.drop_eq_nil_of_le (by rw [← size_list]; omega)
    simp only [value_printed_l1, b1, cond_false, d1, List.all_nil, if_true])
  have hl' : loopN (value_printed_l1 s) fuel 0 = some (if s.data.toList.all goodB = true then .inl () else .inr false) := by simpa using hl
  unfold value_printed
  rw [hl', Option.bind_some]
  cases s.data.toList.all goodB <;> rfl
theorem ref_plain_eq (s : ByteArray) (a b : Int) (hs : s.size ≤ 9223372036854775807) : synthesisref01_plain s a b = value_sized s a b := by
  have hl := loop_fuel (step := synthesisref01_plain_l1 s) s.size (by omega) (fun i => (i : Int)) (fun i => if (s.data.toList.drop i).all goodB = true then .inl () else .inr 1) (fun i hi => by
    have hi' : i < s.data.toList.length := by rw [← size_list]; exact hi
    have e1 : byt s (i : Int) = some (s.data.toList[i].toNat : Int) := by rw [byt_list, List.getElem?_eq_getElem hi']; rfl
    have d1 : s.data.toList.drop i = s.data.toList[i] :: s.data.toList.drop (i + 1) := List.drop_eq_getElem_cons hi'
    have b1 : decide ((i : Int) < (s.size : Int)) = true := decide_eq_true (by omega)
    have hw := w64_succ (n := i) (by omega)
    cases hg : goodB s.data.toList[i] with
    | true =>
      refine .inl ⟨?_, ?_⟩
      · simp only [synthesisref01_plain_l1, b1, e1, cond_true, Option.bind_some, bad_iff, hg, Bool.not_true, cond_false, hw]
      · simp only [d1, List.all_cons, hg, Bool.true_and]
    | false =>
      refine .inr ?_
      simp only [synthesisref01_plain_l1, b1, e1, cond_true, Option.bind_some, bad_iff, hg, Bool.not_false, d1, List.all_cons, Bool.false_and, Bool.false_eq_true, if_false]) (by
    have b1 : decide ((s.size : Int) < (s.size : Int)) = false := decide_eq_false (by omega)
    have d1 : s.data.toList.drop s.size = [] := List.drop_eq_nil_of_le (by rw [← size_list]; omega)
    simp only [synthesisref01_plain_l1, b1, cond_false, d1, List.all_nil, if_true])
  have hl' : loopN (synthesisref01_plain_l1 s) fuel 0 = some (if s.data.toList.all goodB = true then .inl () else .inr 1) := by simpa using hl
  unfold synthesisref01_plain value_sized
  rw [hl', value_printed_eq s hs]
  simp only [Option.bind_some]
  cases s.data.toList.all goodB <;> rfl
theorem sized_some (s : ByteArray) (a b : Int) (hs : s.size ≤ 9223372036854775807) : ∃ c, value_sized s a b = some c := by
  unfold value_sized
  rw [value_printed_eq s hs]
  simp only [Option.bind_some]
  by_cases h1 : (s.size : Int) < a <;> by_cases h2 : b < (s.size : Int) <;> cases s.data.toList.all goodB <;> simp [h1, h2]
mutual
def shortV : Va → Prop
  | .mk _ _ s l => s.size ≤ 9223372036854775807 ∧ shortVs l
def shortVs : List Va → Prop
  | [] => True
  | x :: l => shortV x ∧ shortVs l
end
theorem short_items {v : Va} (h : shortV v) : v.text.size ≤ 9223372036854775807 ∧ ∀ x ∈ v.items, shortV x := by
  cases v with
  | mk t n s l =>
    refine ⟨h.1, ?_⟩
    have : ∀ l : List Va, shortVs l → ∀ x ∈ l, shortV x := fun l => by
      induction l with
      | nil => intro _ x hx; cases hx
      | cons y l ih =>
        intro h x hx
        rcases List.mem_cons.1 hx with rfl | hx
        · exact h.1
        · exact ih h.2 x hx
    exact this l h.2
theorem pos_len (l : List Va) : decide (0 < (l.length : Int)) = !((l.length : Int) == 0) := by
  cases l <;> simp <;> omega
theorem ranged_some (m a b : Int) : ∃ c, value_ranged m a b = some c ∧ synthesisref01_within m a b = some c := by
  unfold value_ranged synthesisref01_within
  by_cases h1 : m < a <;> by_cases h2 : b < m <;> simp [h1, h2]
theorem loop_all {σ β : Type} {step : σ → Option (σ ⊕ β)} (n : Nat) (S : Nat → σ) (b0 : β) (hs : ∀ i, i < n → step (S i) = some (.inl (S (i + 1))) ∨ ∃ b, step (S i) = some (.inr b) ∧ b ≠ b0) :
    ∀ (k i : Nat), loopN step k (S i) = some b0 → ∀ j, i ≤ j → j < n → step (S j) = some (.inl (S (j + 1)))
  | 0, i, h => by cases h
  | k + 1, i, h => fun j hij hj => by
    rw [loopN] at h
    rcases hs i (by omega) with h1 | ⟨b, h1, h2⟩
    · rw [h1] at h
      by_cases he : i = j
      · subst he; exact h1
      · exact loop_all n S b0 hs k (i + 1) h j (by omega) hj
    · rw [h1] at h
      injection h with h
      exact absurd h h2
def rkT (t : Int) : Nat := if t = 7 then 3 else if t = 5 ∨ t = 6 then 2 else 1
def inV (x : Va) : Prop := wideV 9223372036854775807 x ∧ shortV x
theorem inV_items {x : Va} (h : inV x) : x.items.length ≤ 9223372036854775807 ∧ x.text.size ≤ 9223372036854775807 ∧ ∀ y ∈ x.items, inV y := by
  obtain ⟨l1, l2⟩ := wide_items h.1
  obtain ⟨s1, s2⟩ := short_items h.2
  exact ⟨l1, s1, fun y hy => ⟨l2 y hy, s2 y hy⟩⟩
theorem depVs_le {k : Nat} : ∀ {l : List Va}, (∀ y ∈ l, depV y ≤ k) → depVs l ≤ k
  | [], _ => Nat.zero_le _
  | y :: l, h => by
    simp only [depVs]
    exact Nat.max_le.2 ⟨h y (List.mem_cons_self ..), depVs_le fun z hz => h z (List.mem_cons_of_mem _ hz)⟩
theorem depV_le {x : Va} {k : Nat} (h : ∀ y ∈ x.items, depV y ≤ k) : depV x ≤ k + 1 := by
  cases x with
  | mk t n s l => simp only [depV]; exact Nat.succ_le_succ (depVs_le h)
theorem depV_nil {x : Va} (h : ((x.items.length : Int) == 0) = true) : depV x ≤ 1 := by
  refine depV_le fun y hy => ?_
  have : x.items.length = 0 := by have := eq_of_beq h; omega
  rw [List.eq_nil_of_length_eq_zero this] at hy
  cases hy
theorem check_u : ∀ n : Nat, (∀ x : Va, 2 * rkT x.type ≤ n → inV x → ∃ c, value_Check n x = some c ∧ synthesisref01_Check n x = some c ∧ (c = 0 → depV x ≤ rkT x.type)) ∧
    (∀ (l : List Va) (t : Int), (t = 2 ∨ t = 3) → 3 ≤ n → l.length ≤ 9223372036854775807 → (∀ x ∈ l, inV x) → ∃ c, value_elements n l t = some c ∧ synthesisref01_elements n l t = some c ∧ (c = 0 → ∀ x ∈ l, depV x ≤ 1)) ∧
    (∀ l : List Va, 5 ≤ n → l.length ≤ 9223372036854775807 → (∀ x ∈ l, inV x) → ∃ c, value_rows n l = some c ∧ synthesisref01_rows n l = some c ∧ (c = 0 → ∀ x ∈ l, depV x ≤ 2))
  | 0 => ⟨fun x h => by unfold rkT at h; split at h <;> (try split at h) <;> omega, fun l t _ h => by omega, fun l h => by omega⟩
  | n + 1 => by
    obtain ⟨ih1, ih2, ih3⟩ := check_u n
    refine ⟨fun x hd hx => ?_, fun l t ht hd hl wl => ?_, fun l hd hl wl => ?_⟩
    · show ∃ c, value_Check_b (value_Check n) (value_elements n) (value_rows n) x = some c ∧ synthesisref01_Check_b (synthesisref01_Check n) (synthesisref01_elements n) (synthesisref01_rows n) x = some c ∧ _
      obtain ⟨lx, sx, wx⟩ := inV_items hx
      have hS := fun a b => sized_some x.text a b sx
      have hP := fun a b => ref_plain_eq x.text a b sx
      by_cases h0 : x.type < 1
      · exact ⟨3, by simp [value_Check_b, h0], by simp [synthesisref01_Check_b, h0], fun h => absurd h (by decide)⟩
      by_cases h8 : 8 < x.type
      · exact ⟨3, by simp [value_Check_b, h0, h8], by simp [synthesisref01_Check_b, h0, h8], fun h => absurd h (by decide)⟩
      have ht : x.type = 1 ∨ x.type = 2 ∨ x.type = 3 ∨ x.type = 4 ∨ x.type = 5 ∨ x.type = 6 ∨ x.type = 7 ∨ x.type = 8 := by omega
      have hE : ∀ t, (t = 2 ∨ t = 3) → rkT x.type = 2 → ∃ c, value_elements n x.items t = some c ∧ synthesisref01_elements n x.items t = some c ∧ (c = 0 → depV x ≤ 2) := fun t h1 h2 => by
        obtain ⟨c, e1, e2, e3⟩ := ih2 x.items t h1 (by omega) lx wx
        exact ⟨c, e1, e2, fun h => depV_le (e3 h)⟩
      have hR : rkT x.type = 3 → ∃ c, value_rows n x.items = some c ∧ synthesisref01_rows n x.items = some c ∧ (c = 0 → depV x ≤ 3) := fun h2 => by
        obtain ⟨c, e1, e2, e3⟩ := ih3 x.items (by omega) lx wx
        exact ⟨c, e1, e2, fun h => depV_le (e3 h)⟩
      have hp := pos_len x.items
      cases hz : (x.text.toList == (⟨#[]⟩ : ByteArray).toList) <;> cases hm : (x.num == 0) <;> cases hl : ((x.items.length : Int) == 0) <;> rw [hl] at hp <;>
        rcases ht with ht | ht | ht | ht | ht | ht | ht | ht <;>
        first
          | (refine ⟨4, ?_, ?_, fun h => absurd h (by decide)⟩; rotate_left; (simp only [synthesisref01_Check_b, ht, hz, hm, hp, bne]; simp); (simp only [value_Check_b, value_unused, ht, hz, hm, hl]; simp))
          | (obtain ⟨c, e1, e2⟩ := ranged_some x.num 0 1; refine ⟨c, ?_, ?_, fun _ => by rw [ht]; exact depV_nil hl⟩; rotate_left; (simp only [synthesisref01_Check_b, ht, hz, hm, hp, bne]; simp [e2]); (simp only [value_Check_b, value_unused, ht, hz, hm, hl]; simp [e1]))
          | (obtain ⟨c, e1, e2⟩ := ranged_some x.num (-1000000) 1000000; refine ⟨c, ?_, ?_, fun _ => by rw [ht]; exact depV_nil hl⟩; rotate_left; (simp only [synthesisref01_Check_b, ht, hz, hm, hp, bne]; simp [e2]); (simp only [value_Check_b, value_unused, ht, hz, hm, hl]; simp [e1]))
          | (obtain ⟨c, e1, e2⟩ := ranged_some x.num 0 255; refine ⟨c, ?_, ?_, fun _ => by rw [ht]; exact depV_nil hl⟩; rotate_left; (simp only [synthesisref01_Check_b, ht, hz, hm, hp, bne]; simp [e2]); (simp only [value_Check_b, value_unused, ht, hz, hm, hl]; simp [e1]))
          | (obtain ⟨c, e1⟩ := hS 0 64; refine ⟨c, ?_, ?_, fun _ => by rw [ht]; exact depV_nil hl⟩; rotate_left; (simp only [synthesisref01_Check_b, ht, hz, hm, hp, bne]; simp [hP, e1]); (simp only [value_Check_b, value_unused, ht, hz, hm, hl]; simp [e1]))
          | (obtain ⟨c, e1⟩ := hS 1 40; refine ⟨c, ?_, ?_, fun _ => by rw [ht]; exact depV_nil hl⟩; rotate_left; (simp only [synthesisref01_Check_b, ht, hz, hm, hp, bne]; simp [hP, e1]); (simp only [value_Check_b, value_unused, ht, hz, hm, hl]; simp [e1]))
          | (obtain ⟨c, e1, e2, e3⟩ := hE 2 (.inl rfl) (by rw [ht]; rfl); refine ⟨c, ?_, ?_, fun h => by rw [ht]; exact e3 h⟩; rotate_left; (simp only [synthesisref01_Check_b, ht, hz, hm, hp, bne]; simp [e2]); (simp only [value_Check_b, value_unused, ht, hz, hm, hl]; simp [e1]))
          | (obtain ⟨c, e1, e2, e3⟩ := hE 3 (.inr rfl) (by rw [ht]; rfl); refine ⟨c, ?_, ?_, fun h => by rw [ht]; exact e3 h⟩; rotate_left; (simp only [synthesisref01_Check_b, ht, hz, hm, hp, bne]; simp [e2]); (simp only [value_Check_b, value_unused, ht, hz, hm, hl]; simp [e1]))
          | (obtain ⟨c, e1, e2, e3⟩ := hR (by rw [ht]; rfl); refine ⟨c, ?_, ?_, fun h => by rw [ht]; exact e3 h⟩; rotate_left; (simp only [synthesisref01_Check_b, ht, hz, hm, hp, bne]; simp [e2]); (simp only [value_Check_b, value_unused, ht, hz, hm, hl]; simp [e1]))
    · show ∃ c, value_elements_b (value_Check n) (value_elements n) (value_rows n) l t = some c ∧ synthesisref01_elements_b (synthesisref01_Check n) (synthesisref01_elements n) (synthesisref01_rows n) l t = some c ∧ _
      by_cases h16 : (16 : Int) < (l.length : Int)
      · exact ⟨2, by simp only [value_elements_b, decide_eq_true h16, cond_true], by simp only [synthesisref01_elements_b, decide_eq_true h16, cond_true], fun h => absurd h (by decide)⟩
      · have hrk : rkT t = 1 := by rcases ht with rfl | rfl <;> rfl
        have hst : ∀ (i : Nat) (hi : i < l.length), (value_elements_l1 l t (value_Check n) (i : Int) = some (.inl ((i + 1 : Nat) : Int)) ∧ synthesisref01_elements_l1 l t (synthesisref01_Check n) (i : Int) = some (.inl ((i + 1 : Nat) : Int)) ∧ depV l[i] ≤ 1) ∨
            ∃ c, c ≠ 0 ∧ value_elements_l1 l t (value_Check n) (i : Int) = some (.inr (.inr c)) ∧ synthesisref01_elements_l1 l t (synthesisref01_Check n) (i : Int) = some (.inr (.inr c)) := fun i hi => by
          have e1 : l[i]? = some l[i] := List.getElem?_eq_getElem hi
          have b1 : decide ((i : Int) < (l.length : Int)) = true := decide_eq_true (by omega)
          have hw := w64_succ (n := i) (by omega)
          cases ht : (l[i].type != t) with
          | true => exact .inr ⟨3, by decide, by simp only [value_elements_l1, b1, idx_nat, e1, ht, cond_true, Option.bind_some], by simp only [synthesisref01_elements_l1, b1, idx_nat, e1, ht, cond_true, Option.bind_some]⟩
          | false =>
            have hty : l[i].type = t := by rwa [bne_eq_false_iff_eq] at ht
            obtain ⟨c, k1, k2, k3⟩ := ih1 l[i] (by rw [hty, hrk]; omega) (wl _ (List.getElem_mem hi))
            rw [hty, hrk] at k3
            cases hc : (c != 0) with
            | true => exact .inr ⟨c, by simpa using hc, by simp only [value_elements_l1, b1, idx_nat, e1, ht, k1, hc, cond_true, cond_false, Option.bind_some], by simp only [synthesisref01_elements_l1, b1, idx_nat, e1, ht, k2, hc, cond_true, cond_false, Option.bind_some]⟩
            | false => exact .inl ⟨by simp only [value_elements_l1, b1, idx_nat, e1, ht, k1, hc, hw, cond_true, cond_false, Option.bind_some], by simp only [synthesisref01_elements_l1, b1, idx_nat, e1, ht, k2, hc, hw, cond_true, cond_false, Option.bind_some], k3 (by rwa [bne_eq_false_iff_eq] at hc)⟩
        obtain ⟨r, e1, e2⟩ := loop_same (step := value_elements_l1 l t (value_Check n)) (step' := synthesisref01_elements_l1 l t (synthesisref01_Check n)) l.length (by omega) (fun i => (i : Int)) (fun i hi => by
          rcases hst i hi with ⟨a1, a2, _⟩ | ⟨c, _, a1, a2⟩
          · exact .inl ⟨a1, a2⟩
          · exact .inr ⟨_, a1, a2⟩) (.inl ()) (by simp [value_elements_l1]) (by simp [synthesisref01_elements_l1])
        have e1' : loopN (value_elements_l1 l t (value_Check n)) fuel 0 = some r := by simpa using e1
        have e2' : loopN (synthesisref01_elements_l1 l t (synthesisref01_Check n)) fuel 0 = some r := by simpa using e2
        have hne : ∀ c : Int, r = .inr c → c ≠ 0 := fun c hr => by
          obtain ⟨r2, r3, f1, f2, f3⟩ := loop_two (step := value_elements_l1 l t (value_Check n)) (step' := value_elements_l1 l t (value_Check n)) l.length (by omega) (fun i => (i : Int)) (fun i => (i : Int)) (fun r r' => ∀ c, r = .inr c → c ≠ 0) (fun i hi => by
            rcases hst i hi with ⟨a1, a2, _⟩ | ⟨c, h0, a1, a2⟩
            · exact .inl ⟨a1, a1⟩
            · exact .inr ⟨_, _, a1, a1, fun c' h => by cases h; exact h0⟩) ⟨.inl (), .inl (), by simp [value_elements_l1], by simp [value_elements_l1], fun c h => by cases h⟩
          have f1' : loopN (value_elements_l1 l t (value_Check n)) fuel 0 = some r2 := by simpa using f1
          rw [e1'] at f1'
          cases f1'
          exact f3 c hr
        refine ⟨Sum.elim (fun _ => 0) id r, ?_, ?_, fun h0 => ?_⟩
        · simp only [value_elements_b, decide_eq_false h16, cond_false, e1', Option.bind_some]; cases r <;> rfl
        · simp only [synthesisref01_elements_b, decide_eq_false h16, cond_false, e2', Option.bind_some]; cases r <;> rfl
        · cases r with
          | inr c => exact absurd h0 (hne c rfl)
          | inl u =>
            intro x hx
            obtain ⟨i, hi, rfl⟩ := List.mem_iff_getElem.1 hx
            have hall := loop_all (step := value_elements_l1 l t (value_Check n)) l.length (fun i => (i : Int)) (.inl u) (fun i hi => by
              rcases hst i hi with ⟨a1, a2, _⟩ | ⟨c, _, a1, a2⟩
              · exact .inl a1
              · exact .inr ⟨_, a1, fun h => by cases h⟩) fuel 0 e1' i (Nat.zero_le _) hi
            rcases hst i hi with ⟨_, _, h⟩ | ⟨c, _, a1, _⟩
            · exact h
            · rw [a1] at hall; cases hall
    · show ∃ c, value_rows_b (value_Check n) (value_elements n) (value_rows n) l = some c ∧ synthesisref01_rows_b (synthesisref01_Check n) (synthesisref01_elements n) (synthesisref01_rows n) l = some c ∧ _
      by_cases h16 : (8 : Int) < (l.length : Int)
      · exact ⟨2, by simp only [value_rows_b, decide_eq_true h16, cond_true], by simp only [synthesisref01_rows_b, decide_eq_true h16, cond_true], fun h => absurd h (by decide)⟩
      · have hst : ∀ (i : Nat) (hi : i < l.length), (value_rows_l1 l (value_Check n) (i : Int) = some (.inl ((i + 1 : Nat) : Int)) ∧ synthesisref01_rows_l1 l (synthesisref01_Check n) (i : Int) = some (.inl ((i + 1 : Nat) : Int)) ∧ depV l[i] ≤ 2) ∨
            ∃ c, c ≠ 0 ∧ value_rows_l1 l (value_Check n) (i : Int) = some (.inr (.inr c)) ∧ synthesisref01_rows_l1 l (synthesisref01_Check n) (i : Int) = some (.inr (.inr c)) := fun i hi => by
          have e1 : l[i]? = some l[i] := List.getElem?_eq_getElem hi
          have e0 : idx l 0 = some (l[0]'(by omega)) := by rw [show (0 : Int) = ((0 : Nat) : Int) from rfl, idx_nat, List.getElem?_eq_getElem]
          have b1 : decide ((i : Int) < (l.length : Int)) = true := decide_eq_true (by omega)
          have hw := w64_succ (n := i) (by omega)
          cases ht : (l[i].type != 6) with
          | true => exact .inr ⟨3, by decide, by simp only [value_rows_l1, b1, idx_nat, e1, ht, cond_true, Option.bind_some], by simp only [synthesisref01_rows_l1, b1, idx_nat, e1, ht, cond_true, Option.bind_some]⟩
          | false =>
            have hty : l[i].type = 6 := by rwa [bne_eq_false_iff_eq] at ht
            obtain ⟨c, k1, k2, k3⟩ := ih1 l[i] (by rw [hty]; show 2 * 2 ≤ n; omega) (wl _ (List.getElem_mem hi))
            rw [hty] at k3
            obtain ⟨q, hq⟩ : ∃ q, (bif decide ((l[i].items.length : Int) < 1) then some true else bif decide (8 < (l[i].items.length : Int)) then some true else (some ((l[i].items.length : Int) != ((l[0]'(by omega)).items.length : Int)) : Option Bool)) = some q := by
              cases decide ((l[i].items.length : Int) < 1) <;> cases decide (8 < (l[i].items.length : Int)) <;> exact ⟨_, rfl⟩
            cases q with
            | true => exact .inr ⟨2, by decide, by simp only [value_rows_l1, b1, idx_nat, e1, e0, ht, hq, cond_true, cond_false, Option.bind_some], by simp only [synthesisref01_rows_l1, b1, idx_nat, e1, e0, ht, hq, cond_true, cond_false, Option.bind_some]⟩
            | false =>
              cases hc : (c != 0) with
              | true => exact .inr ⟨c, by simpa using hc, by simp only [value_rows_l1, b1, idx_nat, e1, e0, ht, hq, k1, hc, cond_true, cond_false, Option.bind_some], by simp only [synthesisref01_rows_l1, b1, idx_nat, e1, e0, ht, hq, k2, hc, cond_true, cond_false, Option.bind_some]⟩
              | false => exact .inl ⟨by simp only [value_rows_l1, b1, idx_nat, e1, e0, ht, hq, k1, hc, hw, cond_true, cond_false, Option.bind_some], by simp only [synthesisref01_rows_l1, b1, idx_nat, e1, e0, ht, hq, k2, hc, hw, cond_true, cond_false, Option.bind_some], k3 (by rwa [bne_eq_false_iff_eq] at hc)⟩
        obtain ⟨r, e1, e2⟩ := loop_same (step := value_rows_l1 l (value_Check n)) (step' := synthesisref01_rows_l1 l (synthesisref01_Check n)) l.length (by omega) (fun i => (i : Int)) (fun i hi => by
          rcases hst i hi with ⟨a1, a2, _⟩ | ⟨c, _, a1, a2⟩
          · exact .inl ⟨a1, a2⟩
          · exact .inr ⟨_, a1, a2⟩) (.inl ()) (by simp [value_rows_l1]) (by simp [synthesisref01_rows_l1])
        have e1' : loopN (value_rows_l1 l (value_Check n)) fuel 0 = some r := by simpa using e1
        have e2' : loopN (synthesisref01_rows_l1 l (synthesisref01_Check n)) fuel 0 = some r := by simpa using e2
        have hne : ∀ c : Int, r = .inr c → c ≠ 0 := fun c hr => by
          obtain ⟨r2, r3, f1, f2, f3⟩ := loop_two (step := value_rows_l1 l (value_Check n)) (step' := value_rows_l1 l (value_Check n)) l.length (by omega) (fun i => (i : Int)) (fun i => (i : Int)) (fun r r' => ∀ c, r = .inr c → c ≠ 0) (fun i hi => by
            rcases hst i hi with ⟨a1, a2, _⟩ | ⟨c, h0, a1, a2⟩
            · exact .inl ⟨a1, a1⟩
            · exact .inr ⟨_, _, a1, a1, fun c' h => by cases h; exact h0⟩) ⟨.inl (), .inl (), by simp [value_rows_l1], by simp [value_rows_l1], fun c h => by cases h⟩
          have f1' : loopN (value_rows_l1 l (value_Check n)) fuel 0 = some r2 := by simpa using f1
          rw [e1'] at f1'
          cases f1'
          exact f3 c hr
        refine ⟨Sum.elim (fun _ => 0) id r, ?_, ?_, fun h0 => ?_⟩
        · simp only [value_rows_b, decide_eq_false h16, cond_false, e1', Option.bind_some]; cases r <;> rfl
        · simp only [synthesisref01_rows_b, decide_eq_false h16, cond_false, e2', Option.bind_some]; cases r <;> rfl
        · cases r with
          | inr c => exact absurd h0 (hne c rfl)
          | inl u =>
            intro x hx
            obtain ⟨i, hi, rfl⟩ := List.mem_iff_getElem.1 hx
            have hall := loop_all (step := value_rows_l1 l (value_Check n)) l.length (fun i => (i : Int)) (.inl u) (fun i hi => by
              rcases hst i hi with ⟨a1, a2, _⟩ | ⟨c, _, a1, a2⟩
              · exact .inl a1
              · exact .inr ⟨_, a1, fun h => by cases h⟩) fuel 0 e1' i (Nat.zero_le _) hi
            rcases hst i hi with ⟨_, _, h⟩ | ⟨c, _, a1, _⟩
            · exact h
            · rw [a1] at hall; cases hall
theorem rkT_le (t : Int) : rkT t ≤ 3 := by unfold rkT; split <;> (try split) <;> omega
theorem Check_u {x : Va} (hx : inV x) : ∃ c, value_Check fuel x = some c ∧ synthesisref01_Check fuel x = some c ∧ (c = 0 → okV x) := by
  have h6 : 2 * rkT x.type ≤ fuel := Nat.le_trans (Nat.mul_le_mul_left 2 (rkT_le x.type)) (by decide)
  obtain ⟨c, h1, h2, h3⟩ := (check_u fuel).1 x h6 hx
  exact ⟨c, h1, h2, fun h => ⟨by have := h3 h; have := rkT_le x.type; omega, hx.1⟩⟩

end Go.Proofs.YtijkipikefpopaaDoor
