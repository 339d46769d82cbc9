/- LiteralParses, LiteralFaults. -/
import Derived.Test.YtijkipikefpopaaDoorRc
set_option linter.unusedVariables false
set_option linter.unusedSimpArgs false
set_option maxRecDepth 10000
namespace Go.Proofs.YtijkipikefpopaaDoor
open Go Go.RowKit

theorem drop_inj {α : Type} {l : List α} {j k : Nat} (hj : j ≤ l.length) (hk : k ≤ l.length) (h : l.drop j = l.drop k) : j = k := by
  have := congrArg List.length h
  simp only [List.length_drop] at this
  omega
theorem one_le (s : ByteArray) : (oneP.ev s 0).2 ≤ s.size := (ev_le' oneP_good (Nat.zero_le _)).2
theorem take_cut {s : ByteArray} {j : Nat} (h : j ≤ s.size) : ∃ t, cutS s 0 (j : Int) = some t ∧ t.data.toList = s.data.toList.take j ∧ t.size = j := by
  have e : (s.extract 0 j).data.toList = s.data.toList.take j := by rw [ext_list, List.drop_zero]
  refine ⟨s.extract 0 j, by unfold cutS; rw [if_pos ⟨by omega, by omega, by omega⟩]; rfl, e, ?_⟩
  rw [size_list, e, List.length_take, ← size_list]
  omega
/-- a beginning that ends where the reading ended is read to its end -/
theorem take_end {s t : ByteArray} {j n : Nat} (hj : (oneP.ev s 0).2 = j) (hn : n ≤ j) (ht : t.data.toList = s.data.toList.take n) (hs : t.size = n) : (oneP.ev t 0).2 = n := by
  have hjs := one_le s
  have e1 := ev_run s oneP 0
  have e2 := ev_run t oneP 0
  rw [List.drop_zero] at e1 e2
  have hl := size_list s
  rcases run_take oneP false s.data.toList n oneP_good (fun h => by cases h) with ⟨k, h1, h2, h3, h4⟩ | ⟨_, h4⟩
  · rw [e1] at h1
    have := drop_inj (by omega) h2 h1
    omega
  · rw [← ht, e2] at h4
    have hle := one_le t
    have := congrArg List.length h4
    simp only [List.length_drop, List.length_nil] at this
    rw [← size_list] at this
    omega
theorem prV_eq (s : ByteArray) : (∃ v, oneP.ev s 0 = (some v, s.size) ∧ prV s = (v, 0, 0)) ∨ (prV s = (Va.mk 0 0 ⟨#[]⟩ [], ((oneP.ev s 0).2 : Int), 8) ∧ ((oneP.ev s 0).1 = none ∨ (oneP.ev s 0).2 < s.size)) := by
  have hle := one_le s
  unfold prV
  rcases hx : oneP.ev s 0 with ⟨_ | v, j⟩
  · exact .inr ⟨rfl, .inl rfl⟩
  · rw [hx] at hle
    simp only at hle ⊢
    by_cases h : j < s.size
    · rw [if_pos h]; exact .inr ⟨rfl, .inr h⟩
    · rw [if_neg h]
      obtain rfl : j = s.size := by omega
      exact .inl ⟨v, rfl, rfl⟩
end Go.Proofs.YtijkipikefpopaaDoor
