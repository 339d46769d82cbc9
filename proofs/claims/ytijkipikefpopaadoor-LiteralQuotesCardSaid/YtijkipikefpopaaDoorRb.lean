/- What the program reads and what the reference reads is what one reader reads: lists, rows, values. -/
import Derived.Test.YtijkipikefpopaaDoorRa
set_option linter.unusedVariables false
set_option linter.unusedSimpArgs false
set_option maxRecDepth 10000
namespace Go.Proofs.YtijkipikefpopaaDoor
open Go Go.RowKit

/-! lists -/
theorem open_eq {s : ByteArray} (hs : s.size ≤ 1000000) {i : Nat} (hi : i ≤ s.size) (c : UInt8) (hc : c ≠ 0) : literal_reader_word_h ⟨s, (i : Int)⟩ (⟨#[c]⟩ : ByteArray) = some (if atI s i = (c.toNat : Int) then (true, ((i + 1 : Nat) : Int)) else (false, (i : Int))) := by
  have hc0 : (c.toNat : Int) ≠ 0 := by
    intro h
    apply hc
    have : c.toNat = 0 := by omega
    exact UInt8.toNat.inj this
  rw [word_eq hs (by show 1 ≤ 1000000; omega) (by intro x hx; simp [wl] at hx; rw [hx]; exact hc0) hi, show wl (⟨#[c]⟩ : ByteArray) = [(c.toNat : Int)] from rfl]
  simp only [wordP, Pr.ev]
  by_cases h : atI s i = (c.toNat : Int)
  · rw [if_pos h, if_pos h]; rfl
  · rw [if_neg h, if_neg h]; rfl
/-! rows -/
/-! what is read is well shaped -/
end Go.Proofs.YtijkipikefpopaaDoor
