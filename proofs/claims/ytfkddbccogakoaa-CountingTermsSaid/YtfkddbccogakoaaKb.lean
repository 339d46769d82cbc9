/- The law CountingLeast. -/
import Derived.Test.YtfkddbccogakoaaKa
set_option linter.unusedVariables false
set_option linter.unusedSimpArgs false
namespace Go.Proofs.Ytfkddbccogakoaa
open Go Go.RowKit

theorem awake12 : synthesislaw12_alive = some true := by kernel_rfl
theorem small_leaf (l : La) : ∃ b, synthesislaw12_small l (Tm.mk 0 []) = some b ∧ (b = true → l.symbols.length ≤ 12 ∧ l.rules.length ≤ 40) := by
  have hleft : synthesisref12_left fuel (Tm.mk 0 []) 60 = some 59 := by kernel_rfl
  unfold synthesislaw12_small synthesisref12_Small
  by_cases h1 : (l.symbols.length : Int) ≤ 12
  · by_cases h2 : (l.rules.length : Int) ≤ 40
    · rw [decide_eq_true h1, decide_eq_true h2, hleft]
      exact ⟨true, rfl, fun _ => ⟨by omega, by omega⟩⟩
    · rw [decide_eq_true h1, decide_eq_false h2]
      exact ⟨false, rfl, fun h => by cases h⟩
  · rw [decide_eq_false h1]
    exact ⟨false, rfl, fun h => by cases h⟩
def CI (n : Nat) (k : Int) (l : List Int) (s : Int) : Prop := k ≤ s ∧ s + M16 * (l.length : Int) ≤ 1000000000000000000 ∧ ∀ a ∈ l, 0 ≤ a ∧ a < (n : Int)
theorem CI.cons {n : Nat} {k : Int} {a : Int} {l : List Int} {s v : Int} (h : CI n k (a :: l) s) (h0 : 0 ≤ v) (h1 : v ≤ M16) : CI n k l (s + v) ∧ s + v ≤ 1000000000000000000 := by
  obtain ⟨c1, c2, c3⟩ := h
  rw [List.length_cons, Int.natCast_succ, Int.mul_add, Int.mul_one] at c2
  have : 0 ≤ M16 * (l.length : Int) := Int.mul_nonneg (by unfold M16; omega) (by omega)
  exact ⟨⟨by omega, by omega, fun x hx => c3 x (List.mem_cons_of_mem _ hx)⟩, by omega⟩
theorem CI.one {n : Nat} {r : Ru} (hr : RG n r) : CI n 1 r.args 1 := by
  refine ⟨by omega, ?_, hr.args⟩
  have : M16 * (r.args.length : Int) ≤ M16 * 5 := Int.mul_le_mul_of_nonneg_left (by have := hr.few; omega) (by unfold M16; omega)
  unfold M16 at *
  omega
end Go.Proofs.Ytfkddbccogakoaa
