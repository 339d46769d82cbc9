/- Values: the order and the checks, without the program's own comparison. -/
import Derived.Test.YtijkipikefpopaaDoorPl
import Derived.Test.YtijkipikefpopaaDoorZE
import Derived.Test.YtijkipikefpopaaDoorOpo
set_option linter.unusedVariables false
set_option linter.unusedSimpArgs false
namespace Go.Proofs.YtijkipikefpopaaDoor
open Go Go.RowKit
mutual
def wideV (B : Nat) : Va → Prop
  | .mk _ _ _ l => l.length ≤ B ∧ wideVs B l
def wideVs (B : Nat) : List Va → Prop
  | [] => True
  | x :: l => wideV B x ∧ wideVs B l
end
theorem depVs_mem : ∀ {l : List Va} {x : Va}, x ∈ l → depV x ≤ depVs l
  | y :: l, x, h => by
    simp only [depVs]
    rcases List.mem_cons.1 h with rfl | h
    · exact Nat.le_max_left _ _
    · exact Nat.le_trans (depVs_mem h) (Nat.le_max_right _ _)
theorem wideVs_mem {B : Nat} : ∀ {l : List Va} {x : Va}, wideVs B l → x ∈ l → wideV B x
  | y :: l, x, hw, h => by
    rcases List.mem_cons.1 h with rfl | h
    · exact hw.1
    · exact wideVs_mem hw.2 h
theorem wide_items {B : Nat} {v : Va} (h : wideV B v) : v.items.length ≤ B ∧ ∀ x ∈ v.items, wideV B x := by
  cases v; exact ⟨h.1, fun x hx => wideVs_mem h.2 hx⟩

theorem cmpV_eta (x y : Va) : cmpV x y = if x.type < y.type then -1 else if y.type < x.type then 1 else if x.num < y.num then -1 else if y.num < x.num then 1 else if lessB x.text y.text = true then -1 else if lessB y.text x.text = true then 1 else cmpVs x.items y.items := by
  cases x; cases y; rw [cmpV]; rfl
theorem refSign (b : Bool) : synthesisref01_sign b = some (if b = true then -1 else 1) := by cases b <;> rfl
def outR : List Va → List Va → Unit ⊕ Int
  | x :: l, y :: m => if cmpV x y ≠ 0 then .inr (cmpV x y) else outR l m
  | _, _ => .inl ()
theorem outR_spec : ∀ l m : List Va, Sum.elim (fun _ => if (l.length : Int) = (m.length : Int) then 0 else if (l.length : Int) < (m.length : Int) then -1 else (1 : Int)) id (outR l m) = cmpVs l m
  | [], [] => rfl
  | [], y :: m => by
    simp only [outR, cmpVs, Sum.elim_inl, List.length_nil, List.length_cons]
    rw [if_neg (by omega), if_pos (by omega)]
  | x :: l, [] => by
    simp only [outR, cmpVs, Sum.elim_inl, List.length_nil, List.length_cons]
    rw [if_neg (by omega), if_neg (by omega)]
  | x :: l, y :: m => by
    have ih := outR_spec l m
    rw [outR, cmpVs]
    by_cases h : cmpV x y ≠ 0
    · rw [if_pos h, if_pos h]; rfl
    · rw [if_neg h, if_neg h, ← ih]
      simp
theorem ref_Compare_eq : ∀ (n : Nat), (∀ x y : Va, 2 * depV x < n + 1 → wideV 9223372036854775807 x → wideV 9223372036854775807 y → synthesisref01_Compare n x y = some (cmpV x y)) ∧
    ∀ l m : List Va, 2 * depVs l < n → l.length ≤ 9223372036854775807 → m.length ≤ 9223372036854775807 → (∀ x ∈ l, wideV 9223372036854775807 x) → (∀ x ∈ m, wideV 9223372036854775807 x) → synthesisref01_CompareAll n l m = some (cmpVs l m)
  | 0 => ⟨fun x y h => by cases x; simp [depV] at h, fun l m h => by omega⟩
  | n + 1 => by
    obtain ⟨ih1, ih2⟩ := ref_Compare_eq n
    refine ⟨fun x y hd hx hy => ?_, fun l m hd hl hm wl wm => ?_⟩
    · show synthesisref01_Compare_b (synthesisref01_Compare n) (synthesisref01_CompareAll n) x y = _
      obtain ⟨lx, wx⟩ := wide_items hx
      obtain ⟨ly, wy⟩ := wide_items hy
      have hA := ih2 x.items y.items (by cases x; simp only [depV, Va.items] at hd ⊢; omega) lx ly wx wy
      rw [cmpV_eta]
      unfold synthesisref01_Compare_b
      by_cases h1 : x.type = y.type
      · have b1 : (x.type != y.type) = false := by simp [h1]
        rw [if_neg (by omega), if_neg (by omega)]
        by_cases h2 : x.num = y.num
        · have b2 : (x.num != y.num) = false := by simp [h2]
          rw [if_neg (by omega), if_neg (by omega)]
          by_cases h3 : x.text.toList = y.text.toList
          · have b3 : (!(x.text.toList == y.text.toList)) = false := by simp [h3]
            have e1 : lessB x.text y.text = false := by unfold lessB; rw [h3]; exact bytes_self _
            have e2 : lessB y.text x.text = false := by unfold lessB; rw [h3]; exact bytes_self _
            rw [e1, e2, b1, b2, b3]
            simp [hA]
          · have b3 : (!(x.text.toList == y.text.toList)) = true := by simp [h3]
            rw [b1, b2, b3]
            simp only [cond_false, cond_true, refSign, Option.bind_some]
            cases h4 : lessB x.text y.text with
            | true =>
              have : Op.bytesLess x.text.toList y.text.toList = true := h4
              simp [this]
            | false =>
              have h4' : Op.bytesLess x.text.toList y.text.toList = false := h4
              cases h5 : lessB y.text x.text with
              | true => simp [h4']
              | false => exact absurd (bytes_eq _ _ h4' h5) h3
        · have b2 : (x.num != y.num) = true := by simp [h2]
          rw [b1, b2]
          simp only [cond_false, cond_true, refSign, Option.bind_some]
          by_cases h4 : x.num < y.num
          · simp [h4]
          · have : y.num < x.num := by omega
            simp [h4, this]
      · have b1 : (x.type != y.type) = true := by simp [h1]
        rw [b1]
        simp only [cond_false, cond_true, refSign, Option.bind_some]
        by_cases h4 : x.type < y.type
        · simp [h4]
        · have : y.type < x.type := by omega
          simp [h4, this]
    · show synthesisref01_CompareAll_b (synthesisref01_Compare n) (synthesisref01_CompareAll n) l m = _
      obtain ⟨k, hk⟩ : ∃ k, k = Nat.min l.length m.length := ⟨_, rfl⟩
      have hkl : k ≤ l.length := hk ▸ Nat.min_le_left _ _
      have hkm : k ≤ m.length := hk ▸ Nat.min_le_right _ _
      have hkk : k = l.length ∨ k = m.length := by
        rw [hk]
        rcases Nat.le_total l.length m.length with h | h
        · exact .inl (Nat.min_eq_left h)
        · exact .inr (Nat.min_eq_right h)
      have hl := loop_fuel (step := synthesisref01_CompareAll_l1 l m (synthesisref01_Compare n)) k (by omega) (fun i => (i : Int)) (fun i => outR (l.drop i) (m.drop i)) (fun i hi => by
        have hix : i < l.length := by omega
        have hj : i < m.length := by omega
        have e1 : l[i]? = some l[i] := List.getElem?_eq_getElem hix
        have d1 : l.drop i = l[i] :: l.drop (i + 1) := List.drop_eq_getElem_cons hix
        have hw := w64_succ (n := i) (by omega)
        have e2 : m[i]? = some m[i] := List.getElem?_eq_getElem hj
        have d2 : m.drop i = m[i] :: m.drop (i + 1) := List.drop_eq_getElem_cons hj
        have b1 : decide ((i : Int) < (l.length : Int)) = true := decide_eq_true (by omega)
        have b0 : decide ((i : Int) < (m.length : Int)) = true := decide_eq_true (by omega)
        have hc := ih1 l[i] m[i] (by have := depVs_mem (List.getElem_mem hix); omega) (wl _ (List.getElem_mem hix)) (wm _ (List.getElem_mem hj))
        by_cases h0 : cmpV l[i] m[i] = 0
        · have b2 : (cmpV l[i] m[i] != 0) = false := by rw [h0]; rfl
          refine .inl ⟨?_, ?_⟩
          · simp only [synthesisref01_CompareAll_l1, b1, b0, idx_nat, e1, e2, hc, b2, hw, cond_true, cond_false, Option.bind_some]
          · simp only [d1, d2, outR, h0, ne_eq, not_true_eq_false, if_false]
        · have b2 : (cmpV l[i] m[i] != 0) = true := by simpa using h0
          refine .inr ?_
          simp only [d1, d2, outR, ne_eq, h0, not_false_eq_true, if_true, synthesisref01_CompareAll_l1, b1, b0, idx_nat, e1, e2, hc, b2, hw, cond_true, cond_false, Option.bind_some]) (by
        by_cases hlx : k = l.length
        · have d1 : l.drop k = [] := List.drop_eq_nil_of_le (by omega)
          have b1 : decide ((k : Int) < (l.length : Int)) = false := decide_eq_false (by omega)
          simp only [d1, outR, synthesisref01_CompareAll_l1, b1, cond_false, Option.bind_some]
        · have hkm2 : k = m.length := hkk.resolve_left hlx
          have d2 : m.drop k = [] := List.drop_eq_nil_of_le (by omega)
          have b1 : decide ((k : Int) < (l.length : Int)) = true := decide_eq_true (by omega)
          have b0 : decide ((k : Int) < (m.length : Int)) = false := decide_eq_false (by omega)
          have : outR (l.drop k) (m.drop k) = .inl () := by rw [d2]; cases l.drop k <;> rfl
          simp only [this, synthesisref01_CompareAll_l1, b1, b0, cond_true, cond_false, Option.bind_some])
      have hl' : loopN (synthesisref01_CompareAll_l1 l m (synthesisref01_Compare n)) fuel 0 = some (outR l m) := by simpa using hl
      unfold synthesisref01_CompareAll_b
      rw [hl', Option.bind_some, ← outR_spec l m]
      cases outR l m with
      | inl u =>
        simp only [Sum.elim_inl, refSign, Option.bind_some]
        by_cases h1 : (l.length : Int) = (m.length : Int)
        · simp [h1]
        · by_cases h2 : (l.length : Int) < (m.length : Int)
          · rw [if_neg h1, if_pos h2, decide_eq_true h2, beq_eq_false_iff_ne.2 h1]; rfl
          · rw [if_neg h1, if_neg h2, decide_eq_false h2, beq_eq_false_iff_ne.2 h1]; rfl
      | inr c => rfl
def okV (v : Va) : Prop := depV v ≤ 1000000 ∧ wideV 9223372036854775807 v
theorem ref_Equal_eq {x y : Va} (hx : okV x) (hy : okV y) : synthesisref01_Equal x y = some (eqV x y) := by
  unfold synthesisref01_Equal
  rw [(ref_Compare_eq fuel).1 x y (Nat.lt_succ_of_lt (lt_fuel (by have := hx.1; omega))) hx.2 hy.2]
  simp only [Option.bind_some, eqV]
  by_cases h : cmpV x y = 0 <;> simp [h]
theorem byt_list (s : ByteArray) (n : Nat) : byt s (n : Int) = (s.data.toList[n]?).map fun c => (c.toNat : Int) := by
  rw [byt_nat]
  congr 1
  by_cases h : n < s.size
  · rw [getElem?_pos s n h]
    have h' : n < s.data.size := h
    rw [Array.getElem?_toList, Array.getElem?_eq_getElem h']
    rfl
  · rw [getElem?_neg s n h]
    have h' : ¬ n < s.data.size := h
    rw [Array.getElem?_toList, Array.getElem?_eq_none (by omega)]
theorem size_list (s : ByteArray) : s.size = s.data.toList.length := by rw [Array.length_toList]; rfl
mutual
def shortV : Va → Prop
  | .mk _ _ s l => s.size ≤ 9223372036854775807 ∧ shortVs l
def shortVs : List Va → Prop
  | [] => True
  | x :: l => shortV x ∧ shortVs l
end
theorem depVs_le {k : Nat} : ∀ {l : List Va}, (∀ y ∈ l, depV y ≤ k) → depVs l ≤ k
  | [], _ => Nat.zero_le _
  | y :: l, h => by
    simp only [depVs]
    exact Nat.max_le.2 ⟨h y (List.mem_cons_self ..), depVs_le fun z hz => h z (List.mem_cons_of_mem _ hz)⟩
theorem depV_le {x : Va} {k : Nat} (h : ∀ y ∈ x.items, depV y ≤ k) : depV x ≤ k + 1 := by
  cases x with
  | mk t n s l => simp only [depV]; exact Nat.succ_le_succ (depVs_le h)
end Go.Proofs.YtijkipikefpopaaDoor
