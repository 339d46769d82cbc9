/- Values: the order and the check of both texts are one. -/
import Derived.Test.YtfhmljjkhjifeaaGreatDoorPl
import Derived.Test.YtfhmljjkhjifeaaGreatDoorZE
set_option linter.unusedVariables false
set_option linter.unusedSimpArgs false
namespace Go.Proofs.YtfhmljjkhjifeaaGreatDoor
open Go Go.RowKit

mutual
def wideV (B : Nat) : Va → Prop
  | .mk _ _ _ l => l.length ≤ B ∧ wideVs B l
def wideVs (B : Nat) : List Va → Prop
  | [] => True
  | x :: l => wideV B x ∧ wideVs B l
end
theorem depVs_mem : ∀ {l : List Va} {x : Va}, x ∈ l → depV x ≤ depVs l
  | y :: l, x, h => by
    simp only [depVs]
    rcases List.mem_cons.1 h with rfl | h
    · exact Nat.le_max_left _ _
    · exact Nat.le_trans (depVs_mem h) (Nat.le_max_right _ _)
theorem wideVs_mem {B : Nat} : ∀ {l : List Va} {x : Va}, wideVs B l → x ∈ l → wideV B x
  | y :: l, x, hw, h => by
    rcases List.mem_cons.1 h with rfl | h
    · exact hw.1
    · exact wideVs_mem hw.2 h
theorem dep_items {v : Va} {x : Va} (h : x ∈ v.items) : depV x < depV v := by
  cases v; exact Nat.lt_succ_of_le (depVs_mem h)
theorem wide_items {B : Nat} {v : Va} (h : wideV B v) : v.items.length ≤ B ∧ ∀ x ∈ v.items, wideV B x := by
  cases v; exact ⟨h.1, fun x hx => wideVs_mem h.2 hx⟩

theorem cmpV_eta (x y : Va) : cmpV x y = if x.type < y.type then -1 else if y.type < x.type then 1 else if x.num < y.num then -1 else if y.num < x.num then 1 else if lessB x.text y.text = true then -1 else if lessB y.text x.text = true then 1 else cmpVs x.items y.items := by
  cases x; cases y; rw [cmpV]; rfl
theorem gtr_lessB (a b : ByteArray) : (!(Op.bytesLess a.toList b.toList || a.toList == b.toList)) = lessB b a := by
  have asym : ∀ l m : List UInt8, Op.bytesLess l m = true → Op.bytesLess m l = false := by
    intro l
    induction l with
    | nil => intro m _; cases m <;> rfl
    | cons x l ih =>
      intro m h
      cases m with
      | nil => cases h
      | cons y m =>
        simp only [Op.bytesLess, Bool.or_eq_true, decide_eq_true_eq, Bool.and_eq_true, beq_iff_eq] at h
        simp only [Op.bytesLess, Bool.or_eq_false_iff, decide_eq_false_iff_not, Bool.and_eq_false_iff, beq_eq_false_iff_ne]
        rcases h with h | ⟨rfl, h⟩
        · exact ⟨UInt8.not_lt.2 (UInt8.le_of_lt h), .inl (UInt8.ne_of_lt h).symm⟩
        · exact ⟨UInt8.lt_irrefl _, .inr (ih m h)⟩
  unfold lessB
  cases h : Op.bytesLess b.toList a.toList with
  | true =>
    have h2 := asym _ _ h
    have h3 : (a.toList == b.toList) = false := by
      rw [beq_eq_false_iff_ne]
      intro e
      rw [e, bytes_self] at h
      cases h
    rw [h2, h3]; rfl
  | false =>
    cases h2 : Op.bytesLess a.toList b.toList with
    | true => rfl
    | false =>
      have := bytes_eq _ _ h2 h
      rw [this]; simp

/-- what the comparison of lists answers from somewhere on -/
def outC : List Va → List Va → Unit ⊕ Int
  | [], _ => .inl ()
  | _ :: _, [] => .inr 1
  | x :: l, y :: m => if cmpV x y ≠ 0 then .inr (cmpV x y) else outC l m
theorem outC_spec : ∀ l m : List Va, Sum.elim (fun _ => if (l.length : Int) < (m.length : Int) then -1 else (0 : Int)) id (outC l m) = cmpVs l m
  | [], [] => rfl
  | [], y :: m => by simp [outC, cmpVs]
  | x :: l, [] => by simp [outC, cmpVs]
  | x :: l, y :: m => by
    have ih := outC_spec l m
    rw [outC, cmpVs]
    by_cases h : cmpV x y ≠ 0
    · rw [if_pos h, if_pos h]; rfl
    · rw [if_neg h, if_neg h, ← ih]
      simp
theorem value_Compare_eq : ∀ (n : Nat) (x y : Va), depV x < n → wideV 9223372036854775807 x → wideV 9223372036854775807 y → value_Compare n x y = some (cmpV x y)
  | 0, x, y, h, _, _ => by omega
  | n + 1, x, y, hd, hx, hy => by
    show value_Compare_b (value_Compare n) x y = _
    rw [cmpV_eta]
    unfold value_Compare_b
    simp only [gtr_lessB]
    by_cases h1 : x.type < y.type
    · simp [h1]
    by_cases h2 : y.type < x.type
    · simp [h1, h2]
    by_cases h3 : x.num < y.num
    · simp [h1, h2, h3]
    by_cases h4 : y.num < x.num
    · simp [h1, h2, h3, h4]
    cases h5 : lessB x.text y.text with
    | true =>
      have h5' : Op.bytesLess x.text.toList y.text.toList = true := h5
      simp [h1, h2, h3, h4, h5']
    | false =>
    have h5' : Op.bytesLess x.text.toList y.text.toList = false := h5
    cases h6 : lessB y.text x.text with
    | true => simp [h1, h2, h3, h4, h5', h6]
    | false =>
    obtain ⟨lx, wx⟩ := wide_items hx
    obtain ⟨ly, wy⟩ := wide_items hy
    obtain ⟨m, hm⟩ : ∃ m, m = Nat.min x.items.length y.items.length := ⟨_, rfl⟩
    have hmx : m ≤ x.items.length := hm ▸ Nat.min_le_left _ _
    have hmy : m ≤ y.items.length := hm ▸ Nat.min_le_right _ _
    have hmm : m = x.items.length ∨ m = y.items.length := by
      rw [hm]
      rcases Nat.le_total x.items.length y.items.length with h | h
      · exact .inl (Nat.min_eq_left h)
      · exact .inr (Nat.min_eq_right h)
    have hl := loop_fuel (step := value_Compare_l1 x y (value_Compare n)) m (by omega) (fun i => (i : Int)) (fun i => outC (x.items.drop i) (y.items.drop i)) (fun i hi => by
      have hix : i < x.items.length := by omega
      have hj : i < y.items.length := by omega
      have e1 : x.items[i]? = some x.items[i] := List.getElem?_eq_getElem hix
      have d1 : x.items.drop i = x.items[i] :: x.items.drop (i + 1) := List.drop_eq_getElem_cons hix
      have hlt : (i : Int) < (x.items.length : Int) := by omega
      have hw := w64_succ (n := i) (by omega)
      have e2 : y.items[i]? = some y.items[i] := List.getElem?_eq_getElem hj
      have d2 : y.items.drop i = y.items[i] :: y.items.drop (i + 1) := List.drop_eq_getElem_cons hj
      have b1 : decide ((i : Int) < (x.items.length : Int)) = true := decide_eq_true hlt
      have hne : ((i : Int) == (y.items.length : Int)) = false := by rw [beq_eq_false_iff_ne]; omega
      have hc := value_Compare_eq n x.items[i] y.items[i] (by have := dep_items (List.getElem_mem hix); omega) (wx _ (List.getElem_mem hix)) (wy _ (List.getElem_mem hj))
      by_cases h0 : cmpV x.items[i] y.items[i] = 0
      · refine .inl ⟨?_, ?_⟩
        · have b2 : (cmpV x.items[i] y.items[i] != 0) = false := by rw [h0]; rfl
          simp only [value_Compare_l1, b1, idx_nat, e1, e2, hne, hc, b2, hw, cond_true, cond_false, Option.bind_some]
        · simp only [d1, d2, outC, h0, ne_eq, not_true_eq_false, if_false]
      · refine .inr ?_
        have b2 : (cmpV x.items[i] y.items[i] != 0) = true := by simpa using h0
        simp only [d1, d2, outC, ne_eq, h0, not_false_eq_true, if_true, value_Compare_l1, b1, idx_nat, e1, e2, hne, hc, b2, hw, cond_true, cond_false, Option.bind_some]) (by
      rcases hmm with h | h
      · have d1 : x.items.drop m = [] := List.drop_eq_nil_of_le (by omega)
        have hlt : ¬ (m : Int) < (x.items.length : Int) := by omega
        simp only [d1, outC]
        simp [value_Compare_l1, hlt]
      · by_cases hlx : m = x.items.length
        · have d1 : x.items.drop m = [] := List.drop_eq_nil_of_le (by omega)
          have hlt : ¬ (m : Int) < (x.items.length : Int) := by omega
          simp only [d1, outC]
          simp [value_Compare_l1, hlt]
        · have hix : m < x.items.length := by omega
          have e1 : x.items[m]? = some x.items[m] := List.getElem?_eq_getElem hix
          have d1 : x.items.drop m = x.items[m] :: x.items.drop (m + 1) := List.drop_eq_getElem_cons hix
          have d2 : y.items.drop m = [] := List.drop_eq_nil_of_le (by omega)
          have hlt : (m : Int) < (x.items.length : Int) := by omega
          have he : ((m : Int) == (y.items.length : Int)) = true := by rw [beq_iff_eq]; omega
          simp only [d1, d2, outC, value_Compare_l1, decide_eq_true hlt, idx_nat, e1, he, cond_true, Option.bind_some])
    have hl' : loopN (value_Compare_l1 x y (value_Compare n)) fuel 0 = some (outC x.items y.items) := by simpa using hl
    have hs := outC_spec x.items y.items
    simp only [h1, h2, h3, h4, h5', h6, decide_false, cond_false, if_false, Bool.false_eq_true, hl', Option.bind_some, ← hs]
    cases outC x.items y.items with
    | inl u =>
      simp only [Sum.elim_inl]
      by_cases hlt : (x.items.length : Int) < (y.items.length : Int) <;> simp [hlt]
    | inr c => rfl
theorem refSign (b : Bool) : synthesisref01_sign b = some (if b = true then -1 else 1) := by cases b <;> rfl
/-- what the comparison of lists answers from somewhere on, in the specification -/
def outR : List Va → List Va → Unit ⊕ Int
  | x :: l, y :: m => if cmpV x y ≠ 0 then .inr (cmpV x y) else outR l m
  | _, _ => .inl ()
theorem outR_spec : ∀ l m : List Va, Sum.elim (fun _ => if (l.length : Int) = (m.length : Int) then 0 else if (l.length : Int) < (m.length : Int) then -1 else (1 : Int)) id (outR l m) = cmpVs l m
  | [], [] => rfl
  | [], y :: m => by
    simp only [outR, cmpVs, Sum.elim_inl, List.length_nil, List.length_cons]
    rw [if_neg (by omega), if_pos (by omega)]
  | x :: l, [] => by
    simp only [outR, cmpVs, Sum.elim_inl, List.length_nil, List.length_cons]
    rw [if_neg (by omega), if_neg (by omega)]
  | x :: l, y :: m => by
    have ih := outR_spec l m
    rw [outR, cmpVs]
    by_cases h : cmpV x y ≠ 0
    · rw [if_pos h, if_pos h]; rfl
    · rw [if_neg h, if_neg h, ← ih]
      simp
theorem ref_Compare_eq : ∀ (n : Nat), (∀ x y : Va, 2 * depV x < n + 1 → wideV 9223372036854775807 x → wideV 9223372036854775807 y → synthesisref01_Compare n x y = some (cmpV x y)) ∧
    ∀ l m : List Va, 2 * depVs l < n → l.length ≤ 9223372036854775807 → m.length ≤ 9223372036854775807 → (∀ x ∈ l, wideV 9223372036854775807 x) → (∀ x ∈ m, wideV 9223372036854775807 x) → synthesisref01_CompareAll n l m = some (cmpVs l m)
  | 0 => ⟨fun x y h => by cases x; simp [depV] at h, fun l m h => by omega⟩
  | n + 1 => by
    obtain ⟨ih1, ih2⟩ := ref_Compare_eq n
    refine ⟨fun x y hd hx hy => ?_, fun l m hd hl hm wl wm => ?_⟩
    · show synthesisref01_Compare_b (synthesisref01_Compare n) (synthesisref01_CompareAll n) x y = _
      obtain ⟨lx, wx⟩ := wide_items hx
      obtain ⟨ly, wy⟩ := wide_items hy
      have hA := ih2 x.items y.items (by cases x; simp only [depV, Va.items] at hd ⊢; omega) lx ly wx wy
      rw [cmpV_eta]
      unfold synthesisref01_Compare_b
      by_cases h1 : x.type = y.type
      · have b1 : (x.type != y.type) = false := by simp [h1]
        rw [if_neg (by omega), if_neg (by omega)]
        by_cases h2 : x.num = y.num
        · have b2 : (x.num != y.num) = false := by simp [h2]
          rw [if_neg (by omega), if_neg (by omega)]
          by_cases h3 : x.text.toList = y.text.toList
          · have b3 : (!(x.text.toList == y.text.toList)) = false := by simp [h3]
            have e1 : lessB x.text y.text = false := by unfold lessB; rw [h3]; exact bytes_self _
            have e2 : lessB y.text x.text = false := by unfold lessB; rw [h3]; exact bytes_self _
            rw [e1, e2, b1, b2, b3]
            simp [hA]
          · have b3 : (!(x.text.toList == y.text.toList)) = true := by simp [h3]
            rw [b1, b2, b3]
            simp only [cond_false, cond_true, refSign, Option.bind_some]
            cases h4 : lessB x.text y.text with
            | true =>
              have : Op.bytesLess x.text.toList y.text.toList = true := h4
              simp [this]
            | false =>
              have h4' : Op.bytesLess x.text.toList y.text.toList = false := h4
              cases h5 : lessB y.text x.text with
              | true => simp [h4']
              | false => exact absurd (bytes_eq _ _ h4' h5) h3
        · have b2 : (x.num != y.num) = true := by simp [h2]
          rw [b1, b2]
          simp only [cond_false, cond_true, refSign, Option.bind_some]
          by_cases h4 : x.num < y.num
          · simp [h4]
          · have : y.num < x.num := by omega
            simp [h4, this]
      · have b1 : (x.type != y.type) = true := by simp [h1]
        rw [b1]
        simp only [cond_false, cond_true, refSign, Option.bind_some]
        by_cases h4 : x.type < y.type
        · simp [h4]
        · have : y.type < x.type := by omega
          simp [h4, this]
    · show synthesisref01_CompareAll_b (synthesisref01_Compare n) (synthesisref01_CompareAll n) l m = _
      obtain ⟨k, hk⟩ : ∃ k, k = Nat.min l.length m.length := ⟨_, rfl⟩
      have hkl : k ≤ l.length := hk ▸ Nat.min_le_left _ _
      have hkm : k ≤ m.length := hk ▸ Nat.min_le_right _ _
      have hkk : k = l.length ∨ k = m.length := by
        rw [hk]
        rcases Nat.le_total l.length m.length with h | h
        · exact .inl (Nat.min_eq_left h)
        · exact .inr (Nat.min_eq_right h)
      have hl := loop_fuel (step := synthesisref01_CompareAll_l1 l m (synthesisref01_Compare n)) k (by omega) (fun i => (i : Int)) (fun i => outR (l.drop i) (m.drop i)) (fun i hi => by
        have hix : i < l.length := by omega
        have hj : i < m.length := by omega
        have e1 : l[i]? = some l[i] := List.getElem?_eq_getElem hix
        have d1 : l.drop i = l[i] :: l.drop (i + 1) := List.drop_eq_getElem_cons hix
        have hw := w64_succ (n := i) (by omega)
        have e2 : m[i]? = some m[i] := List.getElem?_eq_getElem hj
        have d2 : m.drop i = m[i] :: m.drop (i + 1) := List.drop_eq_getElem_cons hj
        have b1 : decide ((i : Int) < (l.length : Int)) = true := decide_eq_true (by omega)
        have b0 : decide ((i : Int) < (m.length : Int)) = true := decide_eq_true (by omega)
        have hc := ih1 l[i] m[i] (by have := depVs_mem (List.getElem_mem hix); omega) (wl _ (List.getElem_mem hix)) (wm _ (List.getElem_mem hj))
        by_cases h0 : cmpV l[i] m[i] = 0
        · have b2 : (cmpV l[i] m[i] != 0) = false := by rw [h0]; rfl
          refine .inl ⟨?_, ?_⟩
          · simp only [synthesisref01_CompareAll_l1, b1, b0, idx_nat, e1, e2, hc, b2, hw, cond_true, cond_false, Option.bind_some]
          · simp only [d1, d2, outR, h0, ne_eq, not_true_eq_false, if_false]
        · have b2 : (cmpV l[i] m[i] != 0) = true := by simpa using h0
          refine .inr ?_
          simp only [d1, d2, outR, ne_eq, h0, not_false_eq_true, if_true, synthesisref01_CompareAll_l1, b1, b0, idx_nat, e1, e2, hc, b2, hw, cond_true, cond_false, Option.bind_some]) (by
        by_cases hlx : k = l.length
        · have d1 : l.drop k = [] := List.drop_eq_nil_of_le (by omega)
          have b1 : decide ((k : Int) < (l.length : Int)) = false := decide_eq_false (by omega)
          simp only [d1, outR, synthesisref01_CompareAll_l1, b1, cond_false, Option.bind_some]
        · have hkm2 : k = m.length := hkk.resolve_left hlx
          have d2 : m.drop k = [] := List.drop_eq_nil_of_le (by omega)
          have b1 : decide ((k : Int) < (l.length : Int)) = true := decide_eq_true (by omega)
          have b0 : decide ((k : Int) < (m.length : Int)) = false := decide_eq_false (by omega)
          have : outR (l.drop k) (m.drop k) = .inl () := by rw [d2]; cases l.drop k <;> rfl
          simp only [this, synthesisref01_CompareAll_l1, b1, b0, cond_true, cond_false, Option.bind_some])
      have hl' : loopN (synthesisref01_CompareAll_l1 l m (synthesisref01_Compare n)) fuel 0 = some (outR l m) := by simpa using hl
      unfold synthesisref01_CompareAll_b
      rw [hl', Option.bind_some, ← outR_spec l m]
      cases outR l m with
      | inl u =>
        simp only [Sum.elim_inl, refSign, Option.bind_some]
        by_cases h1 : (l.length : Int) = (m.length : Int)
        · simp [h1]
        · by_cases h2 : (l.length : Int) < (m.length : Int)
          · rw [if_neg h1, if_pos h2, decide_eq_true h2, beq_eq_false_iff_ne.2 h1]; rfl
          · rw [if_neg h1, if_neg h2, decide_eq_false h2, beq_eq_false_iff_ne.2 h1]; rfl
      | inr c => rfl
/-- values that both texts take -/
def okV (v : Va) : Prop := depV v ≤ 1000000 ∧ wideV 9223372036854775807 v
theorem value_Equal_eq {x y : Va} (hx : okV x) (hy : okV y) : value_Equal x y = some (eqV x y) := by
  unfold value_Equal
  rw [value_Compare_eq fuel x y (lt_fuel (by have := hx.1; omega)) hx.2 hy.2]
  simp only [Option.bind_some, eqV]
  by_cases h : cmpV x y = 0 <;> simp [h]
theorem ref_Equal_eq {x y : Va} (hx : okV x) (hy : okV y) : synthesisref01_Equal x y = some (eqV x y) := by
  unfold synthesisref01_Equal
  rw [(ref_Compare_eq fuel).1 x y (Nat.lt_succ_of_lt (lt_fuel (by have := hx.1; omega))) hx.2 hy.2]
  simp only [Option.bind_some, eqV]
  by_cases h : cmpV x y = 0 <;> simp [h]
theorem byt_list (s : ByteArray) (n : Nat) : byt s (n : Int) = (s.data.toList[n]?).map fun c => (c.toNat : Int) := by
  rw [byt_nat]
  congr 1
  by_cases h : n < s.size
  · rw [getElem?_pos s n h]
    have h' : n < s.data.size := h
    rw [Array.getElem?_toList, Array.getElem?_eq_getElem h']
    rfl
  · rw [getElem?_neg s n h]
    have h' : ¬ n < s.data.size := h
    rw [Array.getElem?_toList, Array.getElem?_eq_none (by omega)]
theorem size_list (s : ByteArray) : s.size = s.data.toList.length := by rw [Array.length_toList]; rfl
def goodB (c : UInt8) : Bool := decide (32 ≤ c.toNat) && decide (c.toNat ≤ 126)
theorem bad_iff (c : UInt8) : (bif decide ((c.toNat : Int) < 32) then some true else (some (decide (126 < (c.toNat : Int))) : Option Bool)) = some (!goodB c) := by
  unfold goodB
  by_cases h : c.toNat < 32
  · have h1 : decide ((c.toNat : Int) < 32) = true := decide_eq_true (by omega)
    have h2 : decide (32 ≤ c.toNat) = false := decide_eq_false (by omega)
    rw [h1, h2]; rfl
  · have h1 : decide ((c.toNat : Int) < 32) = false := decide_eq_false (by omega)
    have h2 : decide (32 ≤ c.toNat) = true := decide_eq_true (by omega)
    rw [h1, h2]
    by_cases h3 : c.toNat ≤ 126
    · have h4 : decide (126 < (c.toNat : Int)) = false := decide_eq_false (by omega)
      rw [h4, decide_eq_true h3]; rfl
    · have h4 : decide (126 < (c.toNat : Int)) = true := decide_eq_true (by omega)
      rw [h4, decide_eq_false h3]; rfl
theorem value_printed_eq (s : ByteArray) (hs : s.size ≤ 9223372036854775807) : value_printed s = some (s.data.toList.all goodB) := by
  have hl := loop_fuel (step := value_printed_l1 s) s.size (by omega) (fun i => (i : Int)) (fun i => if (s.data.toList.drop i).all goodB = true then .inl () else .inr false) (fun i hi => by
    have hi' : i < s.data.toList.length := by rw [← size_list]; exact hi
    have e1 : byt s (i : Int) = some (s.data.toList[i].toNat : Int) := by rw [byt_list, List.getElem?_eq_getElem hi']; rfl
    have d1 : s.data.toList.drop i = s.data.toList[i] :: s.data.toList.drop (i + 1) := List.drop_eq_getElem_cons hi'
    have b1 : decide ((i : Int) < (s.size : Int)) = true := decide_eq_true (by omega)
    have hw := w64_succ (n := i) (by omega)
    cases hg : goodB s.data.toList[i] with
    | true =>
      refine .inl ⟨?_, ?_⟩
      · simp only [value_printed_l1, b1, e1, cond_true, Option.bind_some, bad_iff, hg, Bool.not_true, cond_false, hw]
      · simp only [d1, List.all_cons, hg, Bool.true_and]
    | false =>
      refine .inr ?_
      simp only [value_printed_l1, b1, e1, cond_true, Option.bind_some, bad_iff, hg, Bool.not_false, d1, List.all_cons, Bool.false_and, Bool.false_eq_true, if_false]) (by
    have b1 : decide ((s.size : Int) < (s.size : Int)) = false := decide_eq_false (by omega)
    have d1 : s.data.toList.drop s.size = [] := List.drop_eq_nil_of_le (by rw [← size_list]; omega)
    simp only [value_printed_l1, b1, cond_false, d1, List.all_nil, if_true])
  have hl' : loopN (value_printed_l1 s) fuel 0 = some (if s.data.toList.all goodB = true then .inl () else .inr false) := by simpa using hl
  unfold value_printed
  rw [hl', Option.bind_some]
  cases s.data.toList.all goodB <;> rfl
theorem ref_plain_eq (s : ByteArray) (a b : Int) (hs : s.size ≤ 9223372036854775807) : synthesisref01_plain s a b = value_sized s a b := by
  have hl := loop_fuel (step := synthesisref01_plain_l1 s) s.size (by omega) (fun i => (i : Int)) (fun i => if (s.data.toList.drop i).all goodB = true then .inl () else .inr 1) (fun i hi => by
    have hi' : i < s.data.toList.length := by rw [← size_list]; exact hi
    have e1 : byt s (i : Int) = some (s.data.toList[i].toNat : Int) := by rw [byt_list, List.getElem?_eq_getElem hi']; rfl
    have d1 : s.data.toList.drop i = s.data.toList[i] :: s.data.toList.drop (i + 1) := List.drop_eq_getElem_cons hi'
    have b1 : decide ((i : Int) < (s.size : Int)) = true := decide_eq_true (by omega)
    have hw := w64_succ (n := i) (by omega)
    cases hg : goodB s.data.toList[i] with
    | true =>
      refine .inl ⟨?_, ?_⟩
      · simp only [synthesisref01_plain_l1, b1, e1, cond_true, Option.bind_some, bad_iff, hg, Bool.not_true, cond_false, hw]
      · simp only [d1, List.all_cons, hg, Bool.true_and]
    | false =>
      refine .inr ?_
      simp only [synthesisref01_plain_l1, b1, e1, cond_true, Option.bind_some, bad_iff, hg, Bool.not_false, d1, List.all_cons, Bool.false_and, Bool.false_eq_true, if_false]) (by
    have b1 : decide ((s.size : Int) < (s.size : Int)) = false := decide_eq_false (by omega)
    have d1 : s.data.toList.drop s.size = [] := List.drop_eq_nil_of_le (by rw [← size_list]; omega)
    simp only [synthesisref01_plain_l1, b1, cond_false, d1, List.all_nil, if_true])
  have hl' : loopN (synthesisref01_plain_l1 s) fuel 0 = some (if s.data.toList.all goodB = true then .inl () else .inr 1) := by simpa using hl
  unfold synthesisref01_plain value_sized
  rw [hl', value_printed_eq s hs]
  simp only [Option.bind_some]
  cases s.data.toList.all goodB <;> rfl
theorem sized_some (s : ByteArray) (a b : Int) (hs : s.size ≤ 9223372036854775807) : ∃ c, value_sized s a b = some c := by
  unfold value_sized
  rw [value_printed_eq s hs]
  simp only [Option.bind_some]
  by_cases h1 : (s.size : Int) < a <;> by_cases h2 : b < (s.size : Int) <;> cases s.data.toList.all goodB <;> simp [h1, h2]
mutual
def shortV : Va → Prop
  | .mk _ _ s l => s.size ≤ 9223372036854775807 ∧ shortVs l
def shortVs : List Va → Prop
  | [] => True
  | x :: l => shortV x ∧ shortVs l
end
theorem short_items {v : Va} (h : shortV v) : v.text.size ≤ 9223372036854775807 ∧ ∀ x ∈ v.items, shortV x := by
  cases v with
  | mk t n s l =>
    refine ⟨h.1, ?_⟩
    have : ∀ l : List Va, shortVs l → ∀ x ∈ l, shortV x := fun l => by
      induction l with
      | nil => intro _ x hx; cases hx
      | cons y l ih =>
        intro h x hx
        rcases List.mem_cons.1 hx with rfl | hx
        · exact h.1
        · exact ih h.2 x hx
    exact this l h.2
end Go.Proofs.YtfhmljjkhjifeaaGreatDoor
/- Values: the check of both texts is one. -/
set_option linter.unusedVariables false
set_option linter.unusedSimpArgs false
namespace Go.Proofs.YtfhmljjkhjifeaaGreatDoor
open Go Go.RowKit

theorem pos_len (l : List Va) : decide (0 < (l.length : Int)) = !((l.length : Int) == 0) := by
  cases l <;> simp <;> omega
theorem ranged_some (m a b : Int) : ∃ c, value_ranged m a b = some c ∧ synthesisref01_within m a b = some c := by
  unfold value_ranged synthesisref01_within
  by_cases h1 : m < a <;> by_cases h2 : b < m <;> simp [h1, h2]
end Go.Proofs.YtfhmljjkhjifeaaGreatDoor
