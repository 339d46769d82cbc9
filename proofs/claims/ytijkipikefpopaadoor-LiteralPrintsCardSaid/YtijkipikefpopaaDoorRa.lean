/- What the program reads and what the reference reads is what one reader reads: words, texts, numbers. -/
import Derived.Test.YtijkipikefpopaaDoorPr
import Derived.Test.YtijkipikefpopaaDoorVr
set_option linter.unusedVariables false
set_option linter.unusedSimpArgs false
set_option maxRecDepth 10000
namespace Go.Proofs.YtijkipikefpopaaDoor
open Go Go.RowKit

def atI (s : ByteArray) (i : Nat) : Int := hd (s.data.toList.drop i)
theorem at_lt {s : ByteArray} {i : Nat} (h : i < s.size) : byt s (i : Int) = some (atI s i) ∧ s.data.toList.drop i = (s.data.toList[i]'(by rw [← size_list]; exact h)) :: s.data.toList.drop (i + 1) ∧ atI s i = ((s.data.toList[i]'(by rw [← size_list]; exact h)).toNat : Int) := by
  have h' : i < s.data.toList.length := by rw [← size_list]; exact h
  have d := List.drop_eq_getElem_cons h'
  refine ⟨?_, d, ?_⟩
  · rw [byt_list, List.getElem?_eq_getElem h', atI, d]; rfl
  · rw [atI, d]; rfl
/-- what is read holds this -/
def Pr.all {α : Type} (P : α → Prop) : Pr α → Prop
  | .done a => P a
  | .fail => True
  | .peek k => ∀ c, (k c).all P
  | .adv p => p.all P
theorem w64n (n : Nat) (h : n ≤ 4000000000) : w64 (n : Int) = n := w64_eq (by omega) (by omega)
theorem w64s (n : Nat) (h : n ≤ 4000000000) : w64 ((n : Int) + 1) = ((n + 1 : Nat) : Int) := w64_succ (by omega)
theorem lp_go {σ β : Type} {st : σ → Option (σ ⊕ β)} {s s' : σ} {n : Nat} (h : st s = some (.inl s')) : loopN st (n + 1) s = loopN st n s' := by rw [loopN, h]
theorem lp_out {σ β : Type} {st : σ → Option (σ ⊕ β)} {s : σ} {b : β} {n : Nat} (h : st s = some (.inr b)) : loopN st (n + 1) s = some b := by rw [loopN, h]

/-! words -/
def wl (w : ByteArray) : List Int := w.data.toList.map fun c => (c.toNat : Int)
/-! texts -/
theorem ba_ext {a b : ByteArray} (h : a.data.toList = b.data.toList) : a = b := by
  cases a; cases b; congr 1; exact Array.toList_inj.1 h
theorem plain_eq (c : Int) : literal_plain c = some (plainI c) := by
  unfold literal_plain plainI
  cases decide (32 ≤ c) <;> cases decide (c ≤ 126) <;> rfl
/-! numbers -/
/-! two hexadecimal digits -/
end Go.Proofs.YtijkipikefpopaaDoor
