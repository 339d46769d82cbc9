/- LiteralParses, LiteralFaults. -/
import Derived.Test.YtijkipikefpopaaDoorRc
set_option linter.unusedVariables false
set_option linter.unusedSimpArgs false
set_option maxRecDepth 10000
namespace Go.Proofs.YtijkipikefpopaaDoor
open Go Go.RowKit

theorem drop_inj {α : Type} {l : List α} {j k : Nat} (hj : j ≤ l.length) (hk : k ≤ l.length) (h : l.drop j = l.drop k) : j = k := by
  have := congrArg List.length h
  simp only [List.length_drop] at this
  omega
theorem one_le (s : ByteArray) : (oneP.ev s 0).2 ≤ s.size := (ev_le' oneP_good (Nat.zero_le _)).2
theorem take_cut {s : ByteArray} {j : Nat} (h : j ≤ s.size) : ∃ t, cutS s 0 (j : Int) = some t ∧ t.data.toList = s.data.toList.take j ∧ t.size = j := by
  have e : (s.extract 0 j).data.toList = s.data.toList.take j := by rw [ext_list, List.drop_zero]
  refine ⟨s.extract 0 j, by unfold cutS; rw [if_pos ⟨by omega, by omega, by omega⟩]; rfl, e, ?_⟩
  rw [size_list, e, List.length_take, ← size_list]
  omega
/-- a beginning that ends where the reading ended is read to its end -/
theorem take_end {s t : ByteArray} {j n : Nat} (hj : (oneP.ev s 0).2 = j) (hn : n ≤ j) (ht : t.data.toList = s.data.toList.take n) (hs : t.size = n) : (oneP.ev t 0).2 = n := by
  have hjs := one_le s
  have e1 := ev_run s oneP 0
  have e2 := ev_run t oneP 0
  rw [List.drop_zero] at e1 e2
  have hl := size_list s
  rcases run_take oneP false s.data.toList n oneP_good (fun h => by cases h) with ⟨k, h1, h2, h3, h4⟩ | ⟨_, h4⟩
  · rw [e1] at h1
    have := drop_inj (by omega) h2 h1
    omega
  · rw [← ht, e2] at h4
    have hle := one_le t
    have := congrArg List.length h4
    simp only [List.length_drop, List.length_nil] at this
    rw [← size_list] at this
    omega
/-- a beginning that goes on is read the same -/
theorem take_more {s t : ByteArray} {j n : Nat} (hj : (oneP.ev s 0).2 = j) (hn : j < n) (hns : n ≤ s.size) (ht : t.data.toList = s.data.toList.take n) (hs : t.size = n) : oneP.ev t 0 = oneP.ev s 0 := by
  have hjs := one_le s
  have e1 := ev_run s oneP 0
  have e2 := ev_run t oneP 0
  rw [List.drop_zero] at e1 e2
  have hl := size_list s
  rcases run_take oneP false s.data.toList n oneP_good (fun h => by cases h) with ⟨k, h1, h2, h3, h4⟩ | ⟨⟨k, h1, h2, h3⟩, _⟩
  · rw [e1] at h1 h4
    have hk := drop_inj (by omega) h2 h1
    rw [← ht, e2] at h4
    have h5 := congrArg Prod.fst h4
    have h6 := congrArg Prod.snd h4
    simp only at h5 h6
    have := drop_inj (by rw [← size_list]; exact one_le t) (by rw [← size_list]; omega) h6
    exact Prod.ext h5 (by omega)
  · rw [e1] at h1
    have hk := drop_inj (by omega) h2 h1
    have := h3 (by omega)
    omega
theorem prV_eq (s : ByteArray) : (∃ v, oneP.ev s 0 = (some v, s.size) ∧ prV s = (v, 0, 0)) ∨ (prV s = (Va.mk 0 0 ⟨#[]⟩ [], ((oneP.ev s 0).2 : Int), 8) ∧ ((oneP.ev s 0).1 = none ∨ (oneP.ev s 0).2 < s.size)) := by
  have hle := one_le s
  unfold prV
  rcases hx : oneP.ev s 0 with ⟨_ | v, j⟩
  · exact .inr ⟨rfl, .inl rfl⟩
  · rw [hx] at hle
    simp only at hle ⊢
    by_cases h : j < s.size
    · rw [if_pos h]; exact .inr ⟨rfl, .inr h⟩
    · rw [if_neg h]
      obtain rfl : j = s.size := by omega
      exact .inl ⟨v, rfl, rfl⟩
theorem law_LiteralFaults (a0 : ByteArray) (h0 : a0.size ≤ 9223372036854775807) : synthesislaw02_LiteralFaults_h a0 = some true := by
  unfold synthesislaw02_LiteralFaults_h
  rw [awake02]
  by_cases h : 1500 < a0.size
  · rw [decide_eq_true (show (1500 : Int) < (a0.size : Int) by omega)]; rfl
  rw [decide_eq_false (show ¬ (1500 : Int) < (a0.size : Int) by omega), cond_false, Parse_eq (by omega), Option.bind_some]
  rcases prV_eq a0 with ⟨v, _, hv⟩ | ⟨hv, hcase⟩
  · rw [hv]; rfl
  have hle := one_le a0
  generalize hj : (oneP.ev a0 0).2 = j at hv hcase hle
  rw [hv]
  obtain ⟨t, ht1, ht2, ht3⟩ := take_cut hle
  have d1 : decide ((j : Int) < 0) = false := decide_eq_false (by omega)
  have d2 : decide ((a0.size : Int) < (j : Int)) = false := decide_eq_false (by omega)
  simp only [show ((8 : Int) == 0) = false from rfl, cond_false, d1, d2, Option.bind_some, ht1, Parse_eq (s := t) (by omega)]
  have g1 : (bif ((prV t).2.2 != 0) then (some (((prV t).2.1 != (j : Int)))) else (some (false)) : Option Bool) = some false := by
    have he := take_end hj (Nat.le_refl _) ht2 ht3
    rcases prV_eq t with ⟨u, _, hu⟩ | ⟨hu, _⟩
    · rw [hu]; rfl
    · rw [hu, he]
      simp
  rw [g1, Option.bind_some, cond_false]
  by_cases hz : j = a0.size
  · rw [show ((j : Int) == (a0.size : Int)) = true by simp [hz]]; rfl
  rw [show ((j : Int) == (a0.size : Int)) = false by simp; omega, cond_false, w64s j (by omega)]
  obtain ⟨t', ht1', ht2', ht3'⟩ := take_cut (s := a0) (j := j + 1) (by omega)
  have he := take_more hj (Nat.lt_succ_self j) (by omega) ht2' ht3'
  have hp : prV t' = (Va.mk 0 0 ⟨#[]⟩ [], (j : Int), 8) := by
    rcases prV_eq t' with ⟨u, hu, _⟩ | ⟨hu, _⟩
    · rw [he, ] at hu
      rw [hu] at hj
      simp only at hj
      omega
    · rw [hu, he, hj]
  simp only [ht1', Option.bind_some, Parse_eq (s := t') (by omega), hp, beq_self_eq_true, cond_true]
end Go.Proofs.YtijkipikefpopaaDoor
