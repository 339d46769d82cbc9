/- Languages of any size, checked by both texts. -/
import Derived.Test.YtfhmljjkhjifeaaGreatDoorGa
set_option linter.unusedVariables false
set_option linter.unusedSimpArgs false
namespace Go.Proofs.YtfhmljjkhjifeaaGreatDoor
open Go Go.RowKit

/-! a value beside the zero value -/
theorem cmp_flat (n : Nat) (x z : Va) (hz : z.items = []) : value_Compare (n + 1) x z = some (cmpV x z) := by
  show value_Compare_b (value_Compare n) x z = _
  rw [cmpV_eta]
  unfold value_Compare_b
  by_cases h1 : x.type < z.type
  · rw [decide_eq_true h1, if_pos h1]; rfl
  rw [decide_eq_false h1, if_neg h1, cond_false]
  by_cases h2 : z.type < x.type
  · rw [decide_eq_true h2, if_pos h2]; rfl
  rw [decide_eq_false h2, if_neg h2, cond_false]
  by_cases h3 : x.num < z.num
  · rw [decide_eq_true h3, if_pos h3]; rfl
  rw [decide_eq_false h3, if_neg h3, cond_false]
  by_cases h4 : z.num < x.num
  · rw [decide_eq_true h4, if_pos h4]; rfl
  rw [decide_eq_false h4, if_neg h4, cond_false, gtr_lessB]
  show (bif lessB x.text z.text then _ else bif lessB z.text x.text then _ else _) = _
  cases h5 : lessB x.text z.text with
  | true => rfl
  | false =>
    cases h6 : lessB z.text x.text with
    | true => rfl
    | false =>
      simp only [cond_false, Bool.false_eq_true, if_false]
      cases hi : x.items with
      | nil =>
        have : loopN (value_Compare_l1 x z (value_Compare n)) fuel 0 = some (.inl ()) := by
          rw [fuel_succ, loopN]
          simp [value_Compare_l1, hi]
        rw [this, hz]
        simp [cmpVs]
      | cons y l =>
        have : loopN (value_Compare_l1 x z (value_Compare n)) fuel 0 = some (.inr 1) := by
          rw [fuel_succ, loopN]
          have e : idx (y :: l) 0 = some y := idx_nat (y :: l) 0
          simp [value_Compare_l1, hi, e, hz]
        rw [this, hz]
        simp [cmpVs]
theorem cmp_zero (n : Nat) (x : Va) : value_Compare (n + 1) x zeroV = some (cmpV x zeroV) := cmp_flat n x zeroV rfl
theorem cmpAll_nil (n : Nat) (l : List Va) : synthesisref01_CompareAll (n + 1) l [] = some (if l.length = 0 then 0 else 1) := by
  show synthesisref01_CompareAll_b (synthesisref01_Compare n) (synthesisref01_CompareAll n) l [] = _
  have : loopN (synthesisref01_CompareAll_l1 l [] (synthesisref01_Compare n)) fuel 0 = some (.inl ()) := by
    rw [fuel_succ, loopN]
    cases l <;> simp [synthesisref01_CompareAll_l1]
  unfold synthesisref01_CompareAll_b
  rw [this]
  cases l with
  | nil => simp
  | cons y l =>
    have h1 : ((((y :: l).length : Nat) : Int) == (([] : List Va).length : Int)) = false := by rw [beq_eq_false_iff_ne, List.length_cons, List.length_nil]; omega
    have h2 : decide ((((y :: l).length : Nat) : Int) < (([] : List Va).length : Int)) = false := decide_eq_false (by rw [List.length_cons, List.length_nil]; omega)
    simp only [Option.bind_some, Sum.elim_inl, h1, h2, cond_false, refSign]
    rfl
theorem ref_flat (n : Nat) (x z : Va) (hz : z.items = []) : synthesisref01_Compare (n + 2) x z = some (cmpV x z) := by
  show synthesisref01_Compare_b (synthesisref01_Compare (n + 1)) (synthesisref01_CompareAll (n + 1)) x z = _
  rw [cmpV_eta]
  unfold synthesisref01_Compare_b
  have hq : cmpVs x.items [] = if x.items.length = 0 then 0 else 1 := by
    cases x.items <;> rfl
  have hq2 := cmpAll_nil n x.items
  rw [hz, hq, hq2]
  by_cases t0 : x.type = z.type
  · rw [show (x.type != z.type) = false by rw [bne_eq_false_iff_eq]; exact t0, cond_false, if_neg (show ¬ x.type < z.type by omega), if_neg (show ¬ z.type < x.type by omega)]
    by_cases n0 : x.num = z.num
    · rw [show (x.num != z.num) = false by rw [bne_eq_false_iff_eq]; exact n0, cond_false, if_neg (show ¬ x.num < z.num by omega), if_neg (show ¬ z.num < x.num by omega)]
      by_cases he : x.text = z.text
      · rw [he, show (z.text.toList == z.text.toList) = true from beq_self_eq_true _]
        simp only [Bool.not_true, cond_false, Option.bind_some, lessB_self, Bool.false_eq_true, if_false]
      · have hne : (x.text.toList == z.text.toList) = false := by
          rw [beq_eq_false_iff_ne]
          exact fun h => he (bytesList_inj h)
        rw [hne]
        simp only [Bool.not_false, cond_true, refSign, Option.bind_some]
        show some (if lessB x.text z.text = true then (-1 : Int) else 1) = _
        cases h5 : lessB x.text z.text with
        | true => rfl
        | false =>
          cases h6 : lessB z.text x.text with
          | true => rfl
          | false => exact absurd (lessB_eq h5 h6) he
    · rw [show (x.num != z.num) = true by rw [bne_iff_ne]; exact n0, cond_true, refSign]
      by_cases hl : x.num < z.num
      · rw [decide_eq_true hl, if_pos hl]; rfl
      · rw [decide_eq_false hl, if_neg hl, if_pos (show z.num < x.num by omega)]; rfl
  · rw [show (x.type != z.type) = true by rw [bne_iff_ne]; exact t0, cond_true, refSign]
    by_cases hl : x.type < z.type
    · rw [decide_eq_true hl, if_pos hl]; rfl
    · rw [decide_eq_false hl, if_neg hl, if_pos (show z.type < x.type by omega)]; rfl
theorem ref_zero (n : Nat) (x : Va) : synthesisref01_Compare (n + 2) x zeroV = some (cmpV x zeroV) := ref_flat n x zeroV rfl
theorem Equal_zero (x : Va) : value_Equal x (Va.mk 0 0 ⟨#[]⟩ []) = some (eqV x zeroV) := by
  unfold value_Equal
  have := cmp_zero 18446744073709551615 x
  rw [← fuel_succ] at this
  show Option.bind (value_Compare fuel x zeroV) _ = _
  rw [this]
  simp only [Option.bind_some, eqV]
  by_cases h : cmpV x zeroV = 0 <;> simp [h]
theorem refEqual_zero (x : Va) : synthesisref01_Equal x (Va.mk 0 0 ⟨#[]⟩ []) = some (eqV x zeroV) := by
  unfold synthesisref01_Equal
  have := ref_zero 18446744073709551614 x
  show Option.bind (synthesisref01_Compare fuel x zeroV) _ = _
  rw [show fuel = 18446744073709551614 + 2 from rfl, this]
  simp only [Option.bind_some, eqV]
  by_cases h : cmpV x zeroV = 0 <;> simp [h]

/-! the check of a value: how deep it goes its type says -/
def rkT (t : Int) : Nat := if t = 7 then 3 else if t = 5 ∨ t = 6 then 2 else 1
def inV (x : Va) : Prop := wideV 9223372036854775807 x ∧ shortV x
theorem inV_items {x : Va} (h : inV x) : x.items.length ≤ 9223372036854775807 ∧ x.text.size ≤ 9223372036854775807 ∧ ∀ y ∈ x.items, inV y := by
  obtain ⟨l1, l2⟩ := wide_items h.1
  obtain ⟨s1, s2⟩ := short_items h.2
  exact ⟨l1, s1, fun y hy => ⟨l2 y hy, s2 y hy⟩⟩
theorem depVs_le {k : Nat} : ∀ {l : List Va}, (∀ y ∈ l, depV y ≤ k) → depVs l ≤ k
  | [], _ => Nat.zero_le _
  | y :: l, h => by
    simp only [depVs]
    exact Nat.max_le.2 ⟨h y (List.mem_cons_self ..), depVs_le fun z hz => h z (List.mem_cons_of_mem _ hz)⟩
theorem depV_le {x : Va} {k : Nat} (h : ∀ y ∈ x.items, depV y ≤ k) : depV x ≤ k + 1 := by
  cases x with
  | mk t n s l => simp only [depV]; exact Nat.succ_le_succ (depVs_le h)
theorem depV_nil {x : Va} (h : ((x.items.length : Int) == 0) = true) : depV x ≤ 1 := by
  refine depV_le fun y hy => ?_
  have : x.items.length = 0 := by have := eq_of_beq h; omega
  rw [List.eq_nil_of_length_eq_zero this] at hy
  cases hy
theorem check_u : ∀ n : Nat, (∀ x : Va, 2 * rkT x.type ≤ n → inV x → ∃ c, value_Check n x = some c ∧ synthesisref01_Check n x = some c ∧ (c = 0 → depV x ≤ rkT x.type)) ∧
    (∀ (l : List Va) (t : Int), (t = 2 ∨ t = 3) → 3 ≤ n → l.length ≤ 9223372036854775807 → (∀ x ∈ l, inV x) → ∃ c, value_elements n l t = some c ∧ synthesisref01_elements n l t = some c ∧ (c = 0 → ∀ x ∈ l, depV x ≤ 1)) ∧
    (∀ l : List Va, 5 ≤ n → l.length ≤ 9223372036854775807 → (∀ x ∈ l, inV x) → ∃ c, value_rows n l = some c ∧ synthesisref01_rows n l = some c ∧ (c = 0 → ∀ x ∈ l, depV x ≤ 2))
  | 0 => ⟨fun x h => by unfold rkT at h; split at h <;> (try split at h) <;> omega, fun l t _ h => by omega, fun l h => by omega⟩
  | n + 1 => by
    obtain ⟨ih1, ih2, ih3⟩ := check_u n
    refine ⟨fun x hd hx => ?_, fun l t ht hd hl wl => ?_, fun l hd hl wl => ?_⟩
    · show ∃ c, value_Check_b (value_Check n) (value_elements n) (value_rows n) x = some c ∧ synthesisref01_Check_b (synthesisref01_Check n) (synthesisref01_elements n) (synthesisref01_rows n) x = some c ∧ _
      obtain ⟨lx, sx, wx⟩ := inV_items hx
      have hS := fun a b => sized_some x.text a b sx
      have hP := fun a b => ref_plain_eq x.text a b sx
      by_cases h0 : x.type < 1
      · exact ⟨3, by simp [value_Check_b, h0], by simp [synthesisref01_Check_b, h0], fun h => absurd h (by decide)⟩
      by_cases h8 : 8 < x.type
      · exact ⟨3, by simp [value_Check_b, h0, h8], by simp [synthesisref01_Check_b, h0, h8], fun h => absurd h (by decide)⟩
      have ht : x.type = 1 ∨ x.type = 2 ∨ x.type = 3 ∨ x.type = 4 ∨ x.type = 5 ∨ x.type = 6 ∨ x.type = 7 ∨ x.type = 8 := by omega
      have hE : ∀ t, (t = 2 ∨ t = 3) → rkT x.type = 2 → ∃ c, value_elements n x.items t = some c ∧ synthesisref01_elements n x.items t = some c ∧ (c = 0 → depV x ≤ 2) := fun t h1 h2 => by
        obtain ⟨c, e1, e2, e3⟩ := ih2 x.items t h1 (by omega) lx wx
        exact ⟨c, e1, e2, fun h => depV_le (e3 h)⟩
      have hR : rkT x.type = 3 → ∃ c, value_rows n x.items = some c ∧ synthesisref01_rows n x.items = some c ∧ (c = 0 → depV x ≤ 3) := fun h2 => by
        obtain ⟨c, e1, e2, e3⟩ := ih3 x.items (by omega) lx wx
        exact ⟨c, e1, e2, fun h => depV_le (e3 h)⟩
      have hp := pos_len x.items
      cases hz : (x.text.toList == (⟨#[]⟩ : ByteArray).toList) <;> cases hm : (x.num == 0) <;> cases hl : ((x.items.length : Int) == 0) <;> rw [hl] at hp <;>
        rcases ht with ht | ht | ht | ht | ht | ht | ht | ht <;>
        first
          | (refine ⟨4, ?_, ?_, fun h => absurd h (by decide)⟩; rotate_left; (simp only [synthesisref01_Check_b, ht, hz, hm, hp, bne]; simp); (simp only [value_Check_b, value_unused, ht, hz, hm, hl]; simp))
          | (obtain ⟨c, e1, e2⟩ := ranged_some x.num 0 1; refine ⟨c, ?_, ?_, fun _ => by rw [ht]; exact depV_nil hl⟩; rotate_left; (simp only [synthesisref01_Check_b, ht, hz, hm, hp, bne]; simp [e2]); (simp only [value_Check_b, value_unused, ht, hz, hm, hl]; simp [e1]))
          | (obtain ⟨c, e1, e2⟩ := ranged_some x.num (-1000000) 1000000; refine ⟨c, ?_, ?_, fun _ => by rw [ht]; exact depV_nil hl⟩; rotate_left; (simp only [synthesisref01_Check_b, ht, hz, hm, hp, bne]; simp [e2]); (simp only [value_Check_b, value_unused, ht, hz, hm, hl]; simp [e1]))
          | (obtain ⟨c, e1, e2⟩ := ranged_some x.num 0 255; refine ⟨c, ?_, ?_, fun _ => by rw [ht]; exact depV_nil hl⟩; rotate_left; (simp only [synthesisref01_Check_b, ht, hz, hm, hp, bne]; simp [e2]); (simp only [value_Check_b, value_unused, ht, hz, hm, hl]; simp [e1]))
          | (obtain ⟨c, e1⟩ := hS 0 64; refine ⟨c, ?_, ?_, fun _ => by rw [ht]; exact depV_nil hl⟩; rotate_left; (simp only [synthesisref01_Check_b, ht, hz, hm, hp, bne]; simp [hP, e1]); (simp only [value_Check_b, value_unused, ht, hz, hm, hl]; simp [e1]))
          | (obtain ⟨c, e1⟩ := hS 1 40; refine ⟨c, ?_, ?_, fun _ => by rw [ht]; exact depV_nil hl⟩; rotate_left; (simp only [synthesisref01_Check_b, ht, hz, hm, hp, bne]; simp [hP, e1]); (simp only [value_Check_b, value_unused, ht, hz, hm, hl]; simp [e1]))
          | (obtain ⟨c, e1, e2, e3⟩ := hE 2 (.inl rfl) (by rw [ht]; rfl); refine ⟨c, ?_, ?_, fun h => by rw [ht]; exact e3 h⟩; rotate_left; (simp only [synthesisref01_Check_b, ht, hz, hm, hp, bne]; simp [e2]); (simp only [value_Check_b, value_unused, ht, hz, hm, hl]; simp [e1]))
          | (obtain ⟨c, e1, e2, e3⟩ := hE 3 (.inr rfl) (by rw [ht]; rfl); refine ⟨c, ?_, ?_, fun h => by rw [ht]; exact e3 h⟩; rotate_left; (simp only [synthesisref01_Check_b, ht, hz, hm, hp, bne]; simp [e2]); (simp only [value_Check_b, value_unused, ht, hz, hm, hl]; simp [e1]))
          | (obtain ⟨c, e1, e2, e3⟩ := hR (by rw [ht]; rfl); refine ⟨c, ?_, ?_, fun h => by rw [ht]; exact e3 h⟩; rotate_left; (simp only [synthesisref01_Check_b, ht, hz, hm, hp, bne]; simp [e2]); (simp only [value_Check_b, value_unused, ht, hz, hm, hl]; simp [e1]))
    · show ∃ c, value_elements_b (value_Check n) (value_elements n) (value_rows n) l t = some c ∧ synthesisref01_elements_b (synthesisref01_Check n) (synthesisref01_elements n) (synthesisref01_rows n) l t = some c ∧ _
      by_cases h16 : (16 : Int) < (l.length : Int)
      · exact ⟨2, by simp only [value_elements_b, decide_eq_true h16, cond_true], by simp only [synthesisref01_elements_b, decide_eq_true h16, cond_true], fun h => absurd h (by decide)⟩
      · have hrk : rkT t = 1 := by rcases ht with rfl | rfl <;> rfl
        have hst : ∀ (i : Nat) (hi : i < l.length), (value_elements_l1 l t (value_Check n) (i : Int) = some (.inl ((i + 1 : Nat) : Int)) ∧ synthesisref01_elements_l1 l t (synthesisref01_Check n) (i : Int) = some (.inl ((i + 1 : Nat) : Int)) ∧ depV l[i] ≤ 1) ∨
            ∃ c, c ≠ 0 ∧ value_elements_l1 l t (value_Check n) (i : Int) = some (.inr (.inr c)) ∧ synthesisref01_elements_l1 l t (synthesisref01_Check n) (i : Int) = some (.inr (.inr c)) := fun i hi => by
          have e1 : l[i]? = some l[i] := List.getElem?_eq_getElem hi
          have b1 : decide ((i : Int) < (l.length : Int)) = true := decide_eq_true (by omega)
          have hw := w64_succ (n := i) (by omega)
          cases ht : (l[i].type != t) with
          | true => exact .inr ⟨3, by decide, by simp only [value_elements_l1, b1, idx_nat, e1, ht, cond_true, Option.bind_some], by simp only [synthesisref01_elements_l1, b1, idx_nat, e1, ht, cond_true, Option.bind_some]⟩
          | false =>
            have hty : l[i].type = t := by rwa [bne_eq_false_iff_eq] at ht
            obtain ⟨c, k1, k2, k3⟩ := ih1 l[i] (by rw [hty, hrk]; omega) (wl _ (List.getElem_mem hi))
            rw [hty, hrk] at k3
            cases hc : (c != 0) with
            | true => exact .inr ⟨c, by simpa using hc, by simp only [value_elements_l1, b1, idx_nat, e1, ht, k1, hc, cond_true, cond_false, Option.bind_some], by simp only [synthesisref01_elements_l1, b1, idx_nat, e1, ht, k2, hc, cond_true, cond_false, Option.bind_some]⟩
            | false => exact .inl ⟨by simp only [value_elements_l1, b1, idx_nat, e1, ht, k1, hc, hw, cond_true, cond_false, Option.bind_some], by simp only [synthesisref01_elements_l1, b1, idx_nat, e1, ht, k2, hc, hw, cond_true, cond_false, Option.bind_some], k3 (by rwa [bne_eq_false_iff_eq] at hc)⟩
        obtain ⟨r, e1, e2⟩ := loop_same (step := value_elements_l1 l t (value_Check n)) (step' := synthesisref01_elements_l1 l t (synthesisref01_Check n)) l.length (by omega) (fun i => (i : Int)) (fun i hi => by
          rcases hst i hi with ⟨a1, a2, _⟩ | ⟨c, _, a1, a2⟩
          · exact .inl ⟨a1, a2⟩
          · exact .inr ⟨_, a1, a2⟩) (.inl ()) (by simp [value_elements_l1]) (by simp [synthesisref01_elements_l1])
        have e1' : loopN (value_elements_l1 l t (value_Check n)) fuel 0 = some r := by simpa using e1
        have e2' : loopN (synthesisref01_elements_l1 l t (synthesisref01_Check n)) fuel 0 = some r := by simpa using e2
        have hne : ∀ c : Int, r = .inr c → c ≠ 0 := fun c hr => by
          obtain ⟨r2, r3, f1, f2, f3⟩ := loop_two (step := value_elements_l1 l t (value_Check n)) (step' := value_elements_l1 l t (value_Check n)) l.length (by omega) (fun i => (i : Int)) (fun i => (i : Int)) (fun r r' => ∀ c, r = .inr c → c ≠ 0) (fun i hi => by
            rcases hst i hi with ⟨a1, a2, _⟩ | ⟨c, h0, a1, a2⟩
            · exact .inl ⟨a1, a1⟩
            · exact .inr ⟨_, _, a1, a1, fun c' h => by cases h; exact h0⟩) ⟨.inl (), .inl (), by simp [value_elements_l1], by simp [value_elements_l1], fun c h => by cases h⟩
          have f1' : loopN (value_elements_l1 l t (value_Check n)) fuel 0 = some r2 := by simpa using f1
          rw [e1'] at f1'
          cases f1'
          exact f3 c hr
        refine ⟨Sum.elim (fun _ => 0) id r, ?_, ?_, fun h0 => ?_⟩
        · simp only [value_elements_b, decide_eq_false h16, cond_false, e1', Option.bind_some]; cases r <;> rfl
        · simp only [synthesisref01_elements_b, decide_eq_false h16, cond_false, e2', Option.bind_some]; cases r <;> rfl
        · cases r with
          | inr c => exact absurd h0 (hne c rfl)
          | inl u =>
            intro x hx
            obtain ⟨i, hi, rfl⟩ := List.mem_iff_getElem.1 hx
            have hall := loop_all (step := value_elements_l1 l t (value_Check n)) l.length (fun i => (i : Int)) (.inl u) (fun i hi => by
              rcases hst i hi with ⟨a1, a2, _⟩ | ⟨c, _, a1, a2⟩
              · exact .inl a1
              · exact .inr ⟨_, a1, fun h => by cases h⟩) fuel 0 e1' i (Nat.zero_le _) hi
            rcases hst i hi with ⟨_, _, h⟩ | ⟨c, _, a1, _⟩
            · exact h
            · rw [a1] at hall; cases hall
    · show ∃ c, value_rows_b (value_Check n) (value_elements n) (value_rows n) l = some c ∧ synthesisref01_rows_b (synthesisref01_Check n) (synthesisref01_elements n) (synthesisref01_rows n) l = some c ∧ _
      by_cases h16 : (8 : Int) < (l.length : Int)
      · exact ⟨2, by simp only [value_rows_b, decide_eq_true h16, cond_true], by simp only [synthesisref01_rows_b, decide_eq_true h16, cond_true], fun h => absurd h (by decide)⟩
      · have hst : ∀ (i : Nat) (hi : i < l.length), (value_rows_l1 l (value_Check n) (i : Int) = some (.inl ((i + 1 : Nat) : Int)) ∧ synthesisref01_rows_l1 l (synthesisref01_Check n) (i : Int) = some (.inl ((i + 1 : Nat) : Int)) ∧ depV l[i] ≤ 2) ∨
            ∃ c, c ≠ 0 ∧ value_rows_l1 l (value_Check n) (i : Int) = some (.inr (.inr c)) ∧ synthesisref01_rows_l1 l (synthesisref01_Check n) (i : Int) = some (.inr (.inr c)) := fun i hi => by
          have e1 : l[i]? = some l[i] := List.getElem?_eq_getElem hi
          have e0 : idx l 0 = some (l[0]'(by omega)) := by rw [show (0 : Int) = ((0 : Nat) : Int) from rfl, idx_nat, List.getElem?_eq_getElem]
          have b1 : decide ((i : Int) < (l.length : Int)) = true := decide_eq_true (by omega)
          have hw := w64_succ (n := i) (by omega)
          cases ht : (l[i].type != 6) with
          | true => exact .inr ⟨3, by decide, by simp only [value_rows_l1, b1, idx_nat, e1, ht, cond_true, Option.bind_some], by simp only [synthesisref01_rows_l1, b1, idx_nat, e1, ht, cond_true, Option.bind_some]⟩
          | false =>
            have hty : l[i].type = 6 := by rwa [bne_eq_false_iff_eq] at ht
            obtain ⟨c, k1, k2, k3⟩ := ih1 l[i] (by rw [hty]; show 2 * 2 ≤ n; omega) (wl _ (List.getElem_mem hi))
            rw [hty] at k3
            obtain ⟨q, hq⟩ : ∃ q, (bif decide ((l[i].items.length : Int) < 1) then some true else bif decide (8 < (l[i].items.length : Int)) then some true else (some ((l[i].items.length : Int) != ((l[0]'(by omega)).items.length : Int)) : Option Bool)) = some q := by
              cases decide ((l[i].items.length : Int) < 1) <;> cases decide (8 < (l[i].items.length : Int)) <;> exact ⟨_, rfl⟩
            cases q with
            | true => exact .inr ⟨2, by decide, by simp only [value_rows_l1, b1, idx_nat, e1, e0, ht, hq, cond_true, cond_false, Option.bind_some], by simp only [synthesisref01_rows_l1, b1, idx_nat, e1, e0, ht, hq, cond_true, cond_false, Option.bind_some]⟩
            | false =>
              cases hc : (c != 0) with
              | true => exact .inr ⟨c, by simpa using hc, by simp only [value_rows_l1, b1, idx_nat, e1, e0, ht, hq, k1, hc, cond_true, cond_false, Option.bind_some], by simp only [synthesisref01_rows_l1, b1, idx_nat, e1, e0, ht, hq, k2, hc, cond_true, cond_false, Option.bind_some]⟩
              | false => exact .inl ⟨by simp only [value_rows_l1, b1, idx_nat, e1, e0, ht, hq, k1, hc, hw, cond_true, cond_false, Option.bind_some], by simp only [synthesisref01_rows_l1, b1, idx_nat, e1, e0, ht, hq, k2, hc, hw, cond_true, cond_false, Option.bind_some], k3 (by rwa [bne_eq_false_iff_eq] at hc)⟩
        obtain ⟨r, e1, e2⟩ := loop_same (step := value_rows_l1 l (value_Check n)) (step' := synthesisref01_rows_l1 l (synthesisref01_Check n)) l.length (by omega) (fun i => (i : Int)) (fun i hi => by
          rcases hst i hi with ⟨a1, a2, _⟩ | ⟨c, _, a1, a2⟩
          · exact .inl ⟨a1, a2⟩
          · exact .inr ⟨_, a1, a2⟩) (.inl ()) (by simp [value_rows_l1]) (by simp [synthesisref01_rows_l1])
        have e1' : loopN (value_rows_l1 l (value_Check n)) fuel 0 = some r := by simpa using e1
        have e2' : loopN (synthesisref01_rows_l1 l (synthesisref01_Check n)) fuel 0 = some r := by simpa using e2
        have hne : ∀ c : Int, r = .inr c → c ≠ 0 := fun c hr => by
          obtain ⟨r2, r3, f1, f2, f3⟩ := loop_two (step := value_rows_l1 l (value_Check n)) (step' := value_rows_l1 l (value_Check n)) l.length (by omega) (fun i => (i : Int)) (fun i => (i : Int)) (fun r r' => ∀ c, r = .inr c → c ≠ 0) (fun i hi => by
            rcases hst i hi with ⟨a1, a2, _⟩ | ⟨c, h0, a1, a2⟩
            · exact .inl ⟨a1, a1⟩
            · exact .inr ⟨_, _, a1, a1, fun c' h => by cases h; exact h0⟩) ⟨.inl (), .inl (), by simp [value_rows_l1], by simp [value_rows_l1], fun c h => by cases h⟩
          have f1' : loopN (value_rows_l1 l (value_Check n)) fuel 0 = some r2 := by simpa using f1
          rw [e1'] at f1'
          cases f1'
          exact f3 c hr
        refine ⟨Sum.elim (fun _ => 0) id r, ?_, ?_, fun h0 => ?_⟩
        · simp only [value_rows_b, decide_eq_false h16, cond_false, e1', Option.bind_some]; cases r <;> rfl
        · simp only [synthesisref01_rows_b, decide_eq_false h16, cond_false, e2', Option.bind_some]; cases r <;> rfl
        · cases r with
          | inr c => exact absurd h0 (hne c rfl)
          | inl u =>
            intro x hx
            obtain ⟨i, hi, rfl⟩ := List.mem_iff_getElem.1 hx
            have hall := loop_all (step := value_rows_l1 l (value_Check n)) l.length (fun i => (i : Int)) (.inl u) (fun i hi => by
              rcases hst i hi with ⟨a1, a2, _⟩ | ⟨c, _, a1, a2⟩
              · exact .inl a1
              · exact .inr ⟨_, a1, fun h => by cases h⟩) fuel 0 e1' i (Nat.zero_le _) hi
            rcases hst i hi with ⟨_, _, h⟩ | ⟨c, _, a1, _⟩
            · exact h
            · rw [a1] at hall; cases hall
theorem rkT_le (t : Int) : rkT t ≤ 3 := by unfold rkT; split <;> (try split) <;> omega
theorem Check_u {x : Va} (hx : inV x) : ∃ c, value_Check fuel x = some c ∧ synthesisref01_Check fuel x = some c ∧ (c = 0 → okV x) := by
  have h6 : 2 * rkT x.type ≤ fuel := Nat.le_trans (Nat.mul_le_mul_left 2 (rkT_le x.type)) (by decide)
  obtain ⟨c, h1, h2, h3⟩ := (check_u fuel).1 x h6 hx
  exact ⟨c, h1, h2, fun h => ⟨by have := h3 h; have := rkT_le x.type; omega, hx.1⟩⟩

/-! rules -/
def wideR (r : Ru) : Prop := r.args.length ≤ 9223372036854775807 ∧ inV r.const
theorem cmpV_zero_eq {x : Va} (h : eqV x zeroV = true) : x = zeroV := cmpV_eq x zeroV (by simpa [eqV] using h)
theorem rule_u (l : La) (r : Ru) (hr : wideR r) : ∃ c, grammar_rule l r = some c ∧ synthesisref11_rule l r = some c := by
  obtain ⟨c, h1, h2, _⟩ := Check_u hr.2
  exact rule_gen l r hr.1 (refEqual_zero _) (Equal_zero _) ⟨c, h1, h2⟩
/-- what is true of a rule of a valid language -/
structure GoodR (l : La) (r : Ru) : Prop where
  sym0 : 0 ≤ r.symbol
  sym1 : r.symbol < (l.symbols.length : Int)
  kind : r.kind = 1 ∨ r.kind = 2 ∨ r.kind = 3
  noargs : r.kind ≠ 3 → r.args = []
  args : ∀ a ∈ r.args, 0 ≤ a ∧ a < (l.symbols.length : Int)
  few : r.args.length ≤ 5
  fine : okV r.const
theorem bif_some {α : Type} {b : Bool} {x y : Option α} {r : α} (h : (bif b then x else y) = some r) : (b = true ∧ x = some r) ∨ (b = false ∧ y = some r) := by
  cases b
  · exact .inr ⟨rfl, h⟩
  · exact .inl ⟨rfl, h⟩
theorem ob_some {α β : Type} {E : Option α} {K : α → Option β} {r : β} (h : Option.bind E K = some r) : ∃ v, E = some v ∧ K v = some r := Option.bind_eq_some_iff.1 h
theorem find_len_all : opNames.all (fun n => (synthesisref09_Find n).all fun o => decide (o.1.f_Args.length ≤ 5)) = true := by kernel_rfl
theorem find_len {s : ByteArray} {o : S_api_Operator × Bool} (h : synthesisref09_Find s = some o) (ho : o.2 = true) : o.1.f_Args.length ≤ 5 := by
  by_cases hin : s ∈ opNames
  · have := List.all_eq_true.1 find_len_all s hin
    rw [h] at this
    simpa using this
  · rw [(find_none s hin).2] at h
    cases h
    cases ho
theorem oper_good {l : La} {r : Ru} (ha : r.args.length ≤ 9223372036854775807) (h : synthesisref11_operation l r = some 0) : r.args.length ≤ 5 ∧ ∀ a ∈ r.args, 0 ≤ a ∧ a < (l.symbols.length : Int) := by
  unfold synthesisref11_operation at h
  obtain ⟨o, h1, h⟩ := ob_some h
  rcases bif_some h with ⟨_, h⟩ | ⟨h2, h⟩
  · cases h
  rcases bif_some h with ⟨_, h⟩ | ⟨h3, h⟩
  · cases h
  have hlen : r.args.length = o.1.f_Args.length := by
    have := bne_eq_false_iff_eq.1 h3
    omega
  have h5 := find_len h1 (by simpa using h2)
  obtain ⟨v, h4, h⟩ := ob_some h
  refine ⟨by omega, fun a hmem => ?_⟩
  have hst : ∀ i, i < r.args.length → synthesisref11_operation_l1 l r o (i : Int) = some (.inl ((i + 1 : Nat) : Int)) ∧ (∀ x, r.args[i]? = some x → 0 ≤ x ∧ x < (l.symbols.length : Int)) ∨ ∃ c, c ≠ 0 ∧ synthesisref11_operation_l1 l r o (i : Int) = some (.inr (.inr c)) := fun i hi => by
    have e1 : r.args[i]? = some r.args[i] := List.getElem?_eq_getElem hi
    have hi2 : i < o.1.f_Args.length := by omega
    have e2 : o.1.f_Args[i]? = some o.1.f_Args[i] := List.getElem?_eq_getElem hi2
    have b1 : decide ((i : Int) < (r.args.length : Int)) = true := decide_eq_true (by omega)
    simp only [synthesisref11_operation_l1, b1, cond_true, idx_nat, e1, e2, Option.bind_some, w64_succ (n := i) (by omega)]
    by_cases h0 : 0 ≤ r.args[i]
    · by_cases h1 : r.args[i] < (l.symbols.length : Int)
      · obtain ⟨x, hx, _⟩ := idx_int h0 h1
        rw [decide_eq_false (show ¬ r.args[i] < 0 by omega), decide_eq_false (show ¬ (l.symbols.length : Int) ≤ r.args[i] by omega)]
        simp only [cond_false, Option.bind_some, hx]
        cases x.type != o.1.f_Args[i] with
        | true => exact .inr ⟨3, by decide, rfl⟩
        | false => exact .inl ⟨rfl, fun y hy => by cases hy; exact ⟨h0, h1⟩⟩
      · rw [decide_eq_false (show ¬ r.args[i] < 0 by omega), decide_eq_true (show (l.symbols.length : Int) ≤ r.args[i] by omega)]
        exact .inr ⟨1, by decide, rfl⟩
    · rw [decide_eq_true (show r.args[i] < 0 by omega)]
      exact .inr ⟨1, by decide, rfl⟩
  obtain ⟨i, hi, rfl⟩ := List.mem_iff_getElem.1 hmem
  have hv : ∀ c : Int, c ≠ 0 → (.inr c : Unit ⊕ Int) ≠ v := fun c hc he => by
    subst he
    cases h
    exact hc rfl
  have hall := loop_all (step := synthesisref11_operation_l1 l r o) r.args.length (fun i => (i : Int)) v (fun i hi => by
    rcases hst i hi with ⟨a1, _⟩ | ⟨c, hc, a1⟩
    · exact .inl a1
    · exact .inr ⟨_, a1, hv c hc⟩) fuel 0 h4 i (Nat.zero_le _) hi
  rcases hst i hi with ⟨_, a2⟩ | ⟨c, _, a1⟩
  · exact a2 _ (List.getElem?_eq_getElem hi)
  · rw [a1] at hall; cases hall
theorem len0 {α : Type} {xs : List α} (h : ((xs.length : Int) == 0) = true) : xs = [] := List.eq_nil_of_length_eq_zero (by have := eq_of_beq h; omega)
theorem rule_good {l : La} {r : Ru} (hr : wideR r) (h : synthesisref11_rule l r = some 0) : GoodR l r := by
  unfold synthesisref11_rule at h
  obtain ⟨b1, h1, h⟩ := ob_some h
  rcases bif_some h with ⟨_, h⟩ | ⟨h2, h⟩
  · cases h
  subst h2
  have hs : 0 ≤ r.symbol ∧ r.symbol < (l.symbols.length : Int) := by
    rcases bif_some h1 with ⟨_, h1⟩ | ⟨q, h1⟩
    · cases h1
    · have q := of_decide_eq_false q
      have q2 := of_decide_eq_false (Option.some.inj h1)
      omega
  obtain ⟨b2, h3, h⟩ := ob_some h
  rcases bif_some h with ⟨_, h⟩ | ⟨h4, h⟩
  · cases h
  subst h4
  rcases bif_some h3 with ⟨_, h3⟩ | ⟨q1, h3⟩
  · cases h3
  rcases bif_some h3 with ⟨_, h3⟩ | ⟨q2, h3⟩
  · cases h3
  have q1 := of_decide_eq_false q1
  have q2 := of_decide_eq_false q2
  obtain ⟨z, h5, h6⟩ := ob_some h3
  have hz : z = true := by
    cases z with
    | true => rfl
    | false => cases h6
  subst hz
  obtain ⟨x, h7, h⟩ := ob_some h
  unfold synthesisref11_zero at h5
  rw [refEqual_zero, Option.bind_some] at h5
  have hk : r.kind = 1 ∨ r.kind = 2 ∨ r.kind = 3 := by omega
  have okz : eqV r.const zeroV = true → okV r.const := fun h => by rw [cmpV_zero_eq h]; exact zeroV_ok
  rcases hk with hk | hk | hk
  · have c1 : (r.kind == 1) = true := by rw [hk]; rfl
    rw [c1, cond_true] at h5
    obtain ⟨b, h8, h9⟩ := ob_some h5
    cases h9
    rcases bif_some h8 with ⟨e1, h8⟩ | ⟨_, h8⟩
    · rcases bif_some h8 with ⟨e2, h8⟩ | ⟨_, h8⟩
      · have ha := len0 (Option.some.inj h8)
        exact ⟨hs.1, hs.2, .inl hk, fun _ => ha, by rw [ha]; intro a h; (cases h), by rw [ha]; exact Nat.zero_le _, okz e1⟩
      · cases h8
    · cases h8
  · have c1 : (r.kind == 1) = false := by rw [hk]; rfl
    have c2 : (r.kind == 2) = true := by rw [hk]; rfl
    rw [c1, cond_false, c2, cond_true] at h5
    rw [c1, cond_false, c2, cond_true] at h
    obtain ⟨b, h8, h9⟩ := ob_some h5
    cases h9
    obtain ⟨c, g1, g2⟩ := ob_some h
    have hc : c = 0 := by
      rcases bif_some g2 with ⟨e, g2⟩ | ⟨e, g2⟩
      · cases g2; rfl
      · exact bne_eq_false_iff_eq.1 e
    obtain ⟨c', f1, f2, f3⟩ := Check_u hr.2
    have hcc : c' = 0 := by rw [f2] at g1; cases g1; exact hc
    rcases bif_some h8 with ⟨e1, h8⟩ | ⟨_, h8⟩
    · rcases bif_some h8 with ⟨e2, h8⟩ | ⟨_, h8⟩
      · have ha := len0 (Option.some.inj h8)
        exact ⟨hs.1, hs.2, .inr (.inl hk), fun _ => ha, by rw [ha]; intro a h; (cases h), by rw [ha]; exact Nat.zero_le _, f3 hcc⟩
      · cases h8
    · cases h8
  · have c1 : (r.kind == 1) = false := by rw [hk]; rfl
    have c2 : (r.kind == 2) = false := by rw [hk]; rfl
    rw [c1, cond_false, c2, cond_false] at h5
    rw [c1, cond_false, c2, cond_false] at h
    obtain ⟨b, h8, h9⟩ := ob_some h5
    cases h9
    obtain ⟨c, g1, g2⟩ := ob_some h
    cases g2
    obtain ⟨a1, a2⟩ := oper_good hr.1 g1
    rcases bif_some h8 with ⟨e1, h8⟩ | ⟨_, h8⟩
    · exact ⟨hs.1, hs.2, .inr (.inr hk), fun h => absurd hk h, a2, a1, okz (Option.some.inj h8)⟩
    · cases h8
theorem GoodR.fineR {l : La} {r : Ru} (h : GoodR l r) (hr : wideR r) : fineR r := ⟨by have := h.few; omega, h.fine, hr.2.2⟩

/-! languages -/
structure wideL (l : La) : Prop where
  name : l.name.size ≤ 9223372036854775807
  inputs : l.inputs.length ≤ 9223372036854775807
  symbols : l.symbols.length ≤ 9223372036854775807
  rules : l.rules.length ≤ 9223372036854775807
  names : ∀ x ∈ l.symbols, x.name.size ≤ 9223372036854775807
  wide : ∀ r ∈ l.rules, wideR r
/-- what is true of a valid language -/
structure GoodL (l : La) : Prop where
  inputs : l.inputs.length ≤ 4
  sym1 : 1 ≤ l.symbols.length
  sym16 : l.symbols.length ≤ 16
  rules : l.rules.length ≤ 96
  good : ∀ r ∈ l.rules, GoodR l r
theorem rules_u (l : La) (h : wideL l) : ∃ r, loopN (grammar_Check_l1 l) fuel 0 = some r ∧ loopN (synthesisref11_Check_l3 l) fuel 0 = some r ∧ (r = .inl () → ∀ x ∈ l.rules, GoodR l x) ∧ (∀ e, r = .inr e → e ≠ 0) := by
  have hl := h.rules
  have hb : ∀ n, n ≤ l.rules.length → (∃ i, i < n ∧ ∃ e, e ≠ 0 ∧ (∀ j, j < i → grammar_Check_l1 l (j : Int) = some (.inl ((j + 1 : Nat) : Int)) ∧ synthesisref11_Check_l3 l (j : Int) = some (.inl ((j + 1 : Nat) : Int))) ∧ grammar_Check_l1 l (i : Int) = some (.inr (.inr e)) ∧ synthesisref11_Check_l3 l (i : Int) = some (.inr (.inr e))) ∨
      ((∀ j, j < n → grammar_Check_l1 l (j : Int) = some (.inl ((j + 1 : Nat) : Int)) ∧ synthesisref11_Check_l3 l (j : Int) = some (.inl ((j + 1 : Nat) : Int))) ∧ ∀ j (hj : j < l.rules.length), j < n → GoodR l l.rules[j]) := by
    intro n
    induction n with
    | zero => intro _; exact .inr ⟨fun j hj => by omega, fun j _ hj => by omega⟩
    | succ n ih =>
      intro hn
      rcases ih (by omega) with ⟨i, hi, e, he, hx⟩ | ⟨g1, g2⟩
      · exact .inl ⟨i, by omega, e, he, hx⟩
      · have hi : n < l.rules.length := by omega
        have e1 : l.rules[n]? = some l.rules[n] := List.getElem?_eq_getElem hi
        have b1 : decide ((n : Int) < (l.rules.length : Int)) = true := decide_eq_true (by omega)
        have hw := h.wide _ (List.getElem_mem hi)
        obtain ⟨c, c1, c2⟩ := rule_u l l.rules[n] hw
        by_cases hc : c = 0
        · subst hc
          have hg := rule_good hw c2
          have hall : ∀ j (hj : j < l.rules.length), j ≤ n → fineR l.rules[j] := fun j hj hjn => by
            have hwj := h.wide _ (List.getElem_mem hj)
            by_cases hjn' : j = n
            · subst hjn'; exact hg.fineR hw
            · exact (g2 j hj (by omega)).fineR hwj
          obtain ⟨b, d1, d2⟩ := dup_rule l n hi hl hall
          cases b with
          | true =>
            refine .inl ⟨n, by omega, 6, by decide, g1, ?_, ?_⟩
            · simp only [grammar_Check_l1, b1, cond_true, idx_nat, e1, Option.bind_some, c1, cut_take l.rules n (by omega), d1]; rfl
            · simp only [synthesisref11_Check_l3, b1, cond_true, idx_nat, e1, Option.bind_some, c2, d2]; rfl
          | false =>
            refine .inr ⟨fun j hj => ?_, fun j hj hjn => ?_⟩
            · by_cases hjn : j = n
              · subst hjn
                constructor
                · simp only [grammar_Check_l1, b1, cond_true, idx_nat, e1, Option.bind_some, c1, cut_take l.rules j (by omega), d1, w64_succ (n := j) (by omega)]; rfl
                · simp only [synthesisref11_Check_l3, b1, cond_true, idx_nat, e1, Option.bind_some, c2, d2, w64_succ (n := j) (by omega)]; rfl
              · exact g1 j (by omega)
            · by_cases hjn' : j = n
              · subst hjn'; exact hg
              · exact g2 j hj (by omega)
        · refine .inl ⟨n, by omega, c, hc, g1, ?_, ?_⟩
          · simp only [grammar_Check_l1, b1, cond_true, idx_nat, e1, Option.bind_some, c1, show (c != 0) = true by simpa using hc]
          · simp only [synthesisref11_Check_l3, b1, cond_true, idx_nat, e1, Option.bind_some, c2, show (c != 0) = true by simpa using hc]
  have hend : grammar_Check_l1 l (l.rules.length : Int) = some (.inr (.inl ())) ∧ synthesisref11_Check_l3 l (l.rules.length : Int) = some (.inr (.inl ())) := by
    have b1 : decide ((l.rules.length : Int) < (l.rules.length : Int)) = false := decide_eq_false (by omega)
    simp only [grammar_Check_l1, synthesisref11_Check_l3, b1, cond_false, and_self]
  rcases hb l.rules.length (Nat.le_refl _) with ⟨i, hi, e, he, hj, a1, a2⟩ | ⟨g1, g2⟩
  · obtain ⟨r, r', h1, h2, rfl, h3⟩ := loop_two (step := grammar_Check_l1 l) (step' := synthesisref11_Check_l3 l) i (by omega) (fun i => (i : Int)) (fun i => (i : Int)) (fun r r' => r = r' ∧ r = .inr e) (fun j hji => .inl (hj j hji)) ⟨_, _, a1, a2, rfl, rfl⟩
    subst h3
    exact ⟨_, by simpa using h1, by simpa using h2, (fun h => by cases h), fun e' h => by cases h; exact he⟩
  · obtain ⟨r, r', h1, h2, rfl, h3⟩ := loop_two (step := grammar_Check_l1 l) (step' := synthesisref11_Check_l3 l) l.rules.length (by omega) (fun i => (i : Int)) (fun i => (i : Int)) (fun r r' => r = r' ∧ r = .inl ()) (fun j hji => .inl (g1 j hji)) ⟨_, _, hend.1, hend.2, rfl, rfl⟩
    subst h3
    refine ⟨_, by simpa using h1, by simpa using h2, fun _ x hx => ?_, fun e' h => by cases h⟩
    obtain ⟨i, hi, rfl⟩ := List.mem_iff_getElem.1 hx
    exact g2 i hi hi
/-- the check of any language: both texts say the same -/
theorem lang_u (l : La) (h : wideL l) : ∃ c, grammar_Check l = some c ∧ synthesisref11_Check l = some c ∧ (c = 0 → GoodL l) := by
  obtain ⟨b, n1, n2⟩ := named_both l.name h.name
  obtain ⟨r1, i1, i2, i3⟩ := inputs_both l h.inputs
  obtain ⟨r2, s1, s2, s3⟩ := symbols_both l h.symbols h.names
  obtain ⟨r3, t1, t2, t3, t4⟩ := rules_u l h
  have hne : ∀ c : Int, c ≠ 0 → (c = 0 → GoodL l) := fun c hc h => absurd h hc
  unfold grammar_Check synthesisref11_Check
  rw [n1, n2]
  simp only [Option.bind_some]
  cases b with
  | false => exact ⟨5, rfl, rfl, hne 5 (by decide)⟩
  | true =>
    simp only [Bool.not_true, cond_false]
    cases hin : decide (4 < (l.inputs.length : Int)) with
    | true => exact ⟨2, rfl, rfl, hne 2 (by decide)⟩
    | false =>
      have hin := of_decide_eq_false hin
      simp only [cond_false, i1, i2, Option.bind_some]
      cases r1 with
      | inr e => exact ⟨e, rfl, rfl, hne e (i3 e rfl)⟩
      | inl u =>
        simp only [Sum.elim_inl]
        have hc : (bif decide ((l.symbols.length : Int) < 1) then some true else some (decide (16 < (l.symbols.length : Int))) : Option Bool) = some (decide ((l.symbols.length : Int) < 1) || decide (16 < (l.symbols.length : Int))) := by cases decide ((l.symbols.length : Int) < 1) <;> rfl
        rw [hc, Option.bind_some, Option.bind_some]
        cases hsy : decide ((l.symbols.length : Int) < 1) || decide (16 < (l.symbols.length : Int)) with
        | true => exact ⟨2, rfl, rfl, hne 2 (by decide)⟩
        | false =>
          rw [Bool.or_eq_false_iff] at hsy
          have hs1 := of_decide_eq_false hsy.1
          have hs2 := of_decide_eq_false hsy.2
          simp only [cond_false, s1, s2, Option.bind_some]
          cases r2 with
          | inr e => exact ⟨e, rfl, rfl, hne e (s3 e rfl)⟩
          | inl u =>
            simp only [Sum.elim_inl]
            cases hru : decide (96 < (l.rules.length : Int)) with
            | true => exact ⟨2, rfl, rfl, hne 2 (by decide)⟩
            | false =>
              have hru := of_decide_eq_false hru
              simp only [cond_false, t1, t2, Option.bind_some]
              cases r3 with
              | inr e => exact ⟨e, rfl, rfl, hne e (t4 e rfl)⟩
              | inl u => exact ⟨0, rfl, rfl, fun _ => ⟨by omega, by omega, by omega, by omega, t3 rfl⟩⟩
end Go.Proofs.YtfhmljjkhjifeaaGreatDoor
