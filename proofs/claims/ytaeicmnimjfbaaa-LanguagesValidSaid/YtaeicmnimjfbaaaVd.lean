/- Values: the check of both texts is one. -/
import Derived.Test.YtaeicmnimjfbaaaVc
set_option linter.unusedVariables false
set_option linter.unusedSimpArgs false
namespace Go.Proofs.Ytaeicmnimjfbaaa
open Go Go.RowKit

theorem pos_len (l : List Va) : decide (0 < (l.length : Int)) = !((l.length : Int) == 0) := by
  cases l <;> simp <;> omega
theorem ranged_some (m a b : Int) : ∃ c, value_ranged m a b = some c ∧ synthesisref01_within m a b = some c := by
  unfold value_ranged synthesisref01_within
  by_cases h1 : m < a <;> by_cases h2 : b < m <;> simp [h1, h2]
theorem check_eq : ∀ n : Nat, (∀ x : Va, 2 * depV x ≤ n → wideV 1152921504606846976 x → shortV x → ∃ c, value_Check n x = some c ∧ synthesisref01_Check n x = some c) ∧
    (∀ (l : List Va) (t : Int), 2 * depVs l < n → l.length ≤ 1152921504606846976 → (∀ x ∈ l, wideV 1152921504606846976 x) → (∀ x ∈ l, shortV x) → ∃ c, value_elements n l t = some c ∧ synthesisref01_elements n l t = some c) ∧
    (∀ l : List Va, 2 * depVs l < n → l.length ≤ 1152921504606846976 → (∀ x ∈ l, wideV 1152921504606846976 x) → (∀ x ∈ l, shortV x) → ∃ c, value_rows n l = some c ∧ synthesisref01_rows n l = some c)
  | 0 => ⟨fun x h => by cases x; simp [depV] at h, fun l t h => by omega, fun l h => by omega⟩
  | n + 1 => by
    obtain ⟨ih1, ih2, ih3⟩ := check_eq n
    refine ⟨fun x hd hw hs => ?_, fun l t hd hl wl sl => ?_, fun l hd hl wl sl => ?_⟩
    · show ∃ c, value_Check_b (value_Check n) (value_elements n) (value_rows n) x = some c ∧ synthesisref01_Check_b (synthesisref01_Check n) (synthesisref01_elements n) (synthesisref01_rows n) x = some c
      obtain ⟨lx, wx⟩ := wide_items hw
      obtain ⟨sx, sxs⟩ := short_items hs
      have hdep : 2 * depVs x.items < n := by cases x; simp only [depV, Va.items] at hd ⊢; omega
      have hE := fun t => ih2 x.items t hdep lx wx sxs
      have hR := ih3 x.items hdep lx wx sxs
      have hS := fun a b => sized_some x.text a b sx
      have hP := fun a b => ref_plain_eq x.text a b sx
      by_cases h0 : x.type < 1
      · exact ⟨3, by simp [value_Check_b, h0], by simp [synthesisref01_Check_b, h0]⟩
      by_cases h8 : 8 < x.type
      · exact ⟨3, by simp [value_Check_b, h0, h8], by simp [synthesisref01_Check_b, h0, h8]⟩
      have ht : x.type = 1 ∨ x.type = 2 ∨ x.type = 3 ∨ x.type = 4 ∨ x.type = 5 ∨ x.type = 6 ∨ x.type = 7 ∨ x.type = 8 := by omega
      have hp := pos_len x.items
      cases hz : (x.text.toList == (⟨#[]⟩ : ByteArray).toList) <;> cases hm : (x.num == 0) <;> cases hl : ((x.items.length : Int) == 0) <;> rw [hl] at hp <;>
        rcases ht with ht | ht | ht | ht | ht | ht | ht | ht <;>
        first
          | (refine ⟨4, ?_, ?_⟩; rotate_left; (simp only [synthesisref01_Check_b, ht, hz, hm, hp, bne]; simp); (simp only [value_Check_b, value_unused, ht, hz, hm, hl]; simp))
          | (obtain ⟨c, e1, e2⟩ := ranged_some x.num 0 1; refine ⟨c, ?_, ?_⟩; rotate_left; (simp only [synthesisref01_Check_b, ht, hz, hm, hp, bne]; simp [e2]); (simp only [value_Check_b, value_unused, ht, hz, hm, hl]; simp [e1]))
          | (obtain ⟨c, e1, e2⟩ := ranged_some x.num (-1000000) 1000000; refine ⟨c, ?_, ?_⟩; rotate_left; (simp only [synthesisref01_Check_b, ht, hz, hm, hp, bne]; simp [e2]); (simp only [value_Check_b, value_unused, ht, hz, hm, hl]; simp [e1]))
          | (obtain ⟨c, e1, e2⟩ := ranged_some x.num 0 255; refine ⟨c, ?_, ?_⟩; rotate_left; (simp only [synthesisref01_Check_b, ht, hz, hm, hp, bne]; simp [e2]); (simp only [value_Check_b, value_unused, ht, hz, hm, hl]; simp [e1]))
          | (obtain ⟨c, e1⟩ := hS 0 64; refine ⟨c, ?_, ?_⟩; rotate_left; (simp only [synthesisref01_Check_b, ht, hz, hm, hp, bne]; simp [hP, e1]); (simp only [value_Check_b, value_unused, ht, hz, hm, hl]; simp [e1]))
          | (obtain ⟨c, e1⟩ := hS 1 40; refine ⟨c, ?_, ?_⟩; rotate_left; (simp only [synthesisref01_Check_b, ht, hz, hm, hp, bne]; simp [hP, e1]); (simp only [value_Check_b, value_unused, ht, hz, hm, hl]; simp [e1]))
          | (obtain ⟨c, e1, e2⟩ := hE 2; refine ⟨c, ?_, ?_⟩; rotate_left; (simp only [synthesisref01_Check_b, ht, hz, hm, hp, bne]; simp [e2]); (simp only [value_Check_b, value_unused, ht, hz, hm, hl]; simp [e1]))
          | (obtain ⟨c, e1, e2⟩ := hE 3; refine ⟨c, ?_, ?_⟩; rotate_left; (simp only [synthesisref01_Check_b, ht, hz, hm, hp, bne]; simp [e2]); (simp only [value_Check_b, value_unused, ht, hz, hm, hl]; simp [e1]))
          | (obtain ⟨c, e1, e2⟩ := hR; refine ⟨c, ?_, ?_⟩; rotate_left; (simp only [synthesisref01_Check_b, ht, hz, hm, hp, bne]; simp [e2]); (simp only [value_Check_b, value_unused, ht, hz, hm, hl]; simp [e1]))
    · show ∃ c, value_elements_b (value_Check n) (value_elements n) (value_rows n) l t = some c ∧ synthesisref01_elements_b (synthesisref01_Check n) (synthesisref01_elements n) (synthesisref01_rows n) l t = some c
      by_cases h16 : (16 : Int) < (l.length : Int)
      · exact ⟨2, by simp only [value_elements_b, decide_eq_true h16, cond_true], by simp only [synthesisref01_elements_b, decide_eq_true h16, cond_true]⟩
      · obtain ⟨r, e1, e2⟩ := loop_same (step := value_elements_l1 l t (value_Check n)) (step' := synthesisref01_elements_l1 l t (synthesisref01_Check n)) l.length (by omega) (fun i => (i : Int)) (fun i hi => by
          have e1 : l[i]? = some l[i] := List.getElem?_eq_getElem hi
          have b1 : decide ((i : Int) < (l.length : Int)) = true := decide_eq_true (by omega)
          have hw := w64_succ (n := i) (by omega)
          obtain ⟨c, k1, k2⟩ := ih1 l[i] (by have := depVs_mem (List.getElem_mem hi); omega) (wl _ (List.getElem_mem hi)) (sl _ (List.getElem_mem hi))
          cases ht : (l[i].type != t) with
          | true => exact .inr ⟨.inr 3, by simp only [value_elements_l1, b1, idx_nat, e1, ht, cond_true, Option.bind_some], by simp only [synthesisref01_elements_l1, b1, idx_nat, e1, ht, cond_true, Option.bind_some]⟩
          | false =>
            cases hc : (c != 0) with
            | true => exact .inr ⟨.inr c, by simp only [value_elements_l1, b1, idx_nat, e1, ht, k1, hc, cond_true, cond_false, Option.bind_some], by simp only [synthesisref01_elements_l1, b1, idx_nat, e1, ht, k2, hc, cond_true, cond_false, Option.bind_some]⟩
            | false => exact .inl ⟨by simp only [value_elements_l1, b1, idx_nat, e1, ht, k1, hc, hw, cond_true, cond_false, Option.bind_some], by simp only [synthesisref01_elements_l1, b1, idx_nat, e1, ht, k2, hc, hw, cond_true, cond_false, Option.bind_some]⟩)
          (.inl ()) (by simp [value_elements_l1]) (by simp [synthesisref01_elements_l1])
        have e1' : loopN (value_elements_l1 l t (value_Check n)) fuel 0 = some r := by simpa using e1
        have e2' : loopN (synthesisref01_elements_l1 l t (synthesisref01_Check n)) fuel 0 = some r := by simpa using e2
        refine ⟨Sum.elim (fun _ => 0) id r, ?_, ?_⟩
        · simp only [value_elements_b, decide_eq_false h16, cond_false, e1', Option.bind_some]; cases r <;> rfl
        · simp only [synthesisref01_elements_b, decide_eq_false h16, cond_false, e2', Option.bind_some]; cases r <;> rfl
    · show ∃ c, value_rows_b (value_Check n) (value_elements n) (value_rows n) l = some c ∧ synthesisref01_rows_b (synthesisref01_Check n) (synthesisref01_elements n) (synthesisref01_rows n) l = some c
      by_cases h16 : (8 : Int) < (l.length : Int)
      · exact ⟨2, by simp only [value_rows_b, decide_eq_true h16, cond_true], by simp only [synthesisref01_rows_b, decide_eq_true h16, cond_true]⟩
      · obtain ⟨r, e1, e2⟩ := loop_same (step := value_rows_l1 l (value_Check n)) (step' := synthesisref01_rows_l1 l (synthesisref01_Check n)) l.length (by omega) (fun i => (i : Int)) (fun i hi => by
          have e1 : l[i]? = some l[i] := List.getElem?_eq_getElem hi
          have e0 : idx l 0 = some (l[0]'(by omega)) := by rw [show (0 : Int) = ((0 : Nat) : Int) from rfl, idx_nat, List.getElem?_eq_getElem]
          have b1 : decide ((i : Int) < (l.length : Int)) = true := decide_eq_true (by omega)
          have hw := w64_succ (n := i) (by omega)
          obtain ⟨c, k1, k2⟩ := ih1 l[i] (by have := depVs_mem (List.getElem_mem hi); omega) (wl _ (List.getElem_mem hi)) (sl _ (List.getElem_mem hi))
          cases ht : (l[i].type != 6) with
          | true => exact .inr ⟨.inr 3, by simp only [value_rows_l1, b1, idx_nat, e1, ht, cond_true, Option.bind_some], by simp only [synthesisref01_rows_l1, b1, idx_nat, e1, ht, cond_true, Option.bind_some]⟩
          | false =>
            obtain ⟨q, hq⟩ : ∃ q, (bif decide ((l[i].items.length : Int) < 1) then some true else bif decide (8 < (l[i].items.length : Int)) then some true else (some ((l[i].items.length : Int) != ((l[0]'(by omega)).items.length : Int)) : Option Bool)) = some q := by
              cases decide ((l[i].items.length : Int) < 1) <;> cases decide (8 < (l[i].items.length : Int)) <;> exact ⟨_, rfl⟩
            cases q with
            | true => exact .inr ⟨.inr 2, by simp only [value_rows_l1, b1, idx_nat, e1, e0, ht, hq, cond_true, cond_false, Option.bind_some], by simp only [synthesisref01_rows_l1, b1, idx_nat, e1, e0, ht, hq, cond_true, cond_false, Option.bind_some]⟩
            | false =>
              cases hc : (c != 0) with
              | true => exact .inr ⟨.inr c, by simp only [value_rows_l1, b1, idx_nat, e1, e0, ht, hq, k1, hc, cond_true, cond_false, Option.bind_some], by simp only [synthesisref01_rows_l1, b1, idx_nat, e1, e0, ht, hq, k2, hc, cond_true, cond_false, Option.bind_some]⟩
              | false => exact .inl ⟨by simp only [value_rows_l1, b1, idx_nat, e1, e0, ht, hq, k1, hc, hw, cond_true, cond_false, Option.bind_some], by simp only [synthesisref01_rows_l1, b1, idx_nat, e1, e0, ht, hq, k2, hc, hw, cond_true, cond_false, Option.bind_some]⟩)
          (.inl ()) (by simp [value_rows_l1]) (by simp [synthesisref01_rows_l1])
        have e1' : loopN (value_rows_l1 l (value_Check n)) fuel 0 = some r := by simpa using e1
        have e2' : loopN (synthesisref01_rows_l1 l (synthesisref01_Check n)) fuel 0 = some r := by simpa using e2
        refine ⟨Sum.elim (fun _ => 0) id r, ?_, ?_⟩
        · simp only [value_rows_b, decide_eq_false h16, cond_false, e1', Option.bind_some]; cases r <;> rfl
        · simp only [synthesisref01_rows_b, decide_eq_false h16, cond_false, e2', Option.bind_some]; cases r <;> rfl
theorem Check_both {x : Va} (hx : okV x) (hs : shortV x) : ∃ c, value_Check fuel x = some c ∧ synthesisref01_Check fuel x = some c :=
  (check_eq fuel).1 x (Nat.le_of_lt (lt_fuel (by have := hx.1; omega))) hx.2 hs
end Go.Proofs.Ytaeicmnimjfbaaa
