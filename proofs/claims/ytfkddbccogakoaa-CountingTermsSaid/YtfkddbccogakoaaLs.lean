/- The places of the rules of a symbol. -/
import Derived.Test.YtfkddbccogakoaaGu
import Derived.Test.YtfkddbccogakoaaLo
set_option linter.unusedVariables false
set_option linter.unusedSimpArgs false
namespace Go.Proofs.Ytfkddbccogakoaa
open Go Go.RowKit

def zeroR : Ru := Ru.mk 0 0 0 zeroV ⟨#[]⟩ []
def symAt (l : La) (k : Nat) : Int := ((l.rules[k]?).getD zeroR).symbol
def argAt (l : La) (k : Nat) : List Int := ((l.rules[k]?).getD zeroR).args
def plL (l : La) (s : Int) (n : Nat) : List Nat := (List.range n).filter fun k => symAt l k == s
theorem plL_succ (l : La) (s : Int) (n : Nat) : plL l s (n + 1) = plL l s n ++ (if (symAt l n == s) = true then [n] else []) := by
  unfold plL
  rw [List.range_succ, List.filter_append]
  congr 1
  cases h : symAt l n == s <;> simp [h]
theorem plL_mem {l : La} {s : Int} {n k : Nat} (h : k ∈ plL l s n) : k < n ∧ symAt l k = s := by
  unfold plL at h
  rw [List.mem_filter, List.mem_range] at h
  exact ⟨h.1, by simpa using h.2⟩
theorem plL_len (l : La) (s : Int) (n : Nat) : (plL l s n).length ≤ n := by
  unfold plL
  have := List.length_filter_le (fun k => symAt l k == s) (List.range n)
  rwa [List.length_range] at this
def natI (k : Nat) : Int := (k : Int)
theorem rule_at (l : La) {k : Nat} (h : k < l.rules.length) : ∃ y, l.rules[k]? = some y ∧ y.symbol = symAt l k ∧ y.args = argAt l k ∧ y ∈ l.rules :=
  ⟨l.rules[k], List.getElem?_eq_getElem h, by unfold symAt; rw [List.getElem?_eq_getElem h]; rfl, by unfold argAt; rw [List.getElem?_eq_getElem h]; rfl, List.getElem_mem h⟩
theorem app8 {acc : List Int} {v : Int} (h : acc.length ≤ 1000000) : app 8 acc [v] = some (acc ++ [v]) := app_eq (by rw [List.length_singleton]; omega)
theorem of_eq (l : La) (s : Int) (h : l.rules.length ≤ 1000000) : grammar_Of l s = some ((plL l s l.rules.length).map natI) := by
  unfold grammar_Of
  have := loop_end (step := grammar_Of_l1 l s) l.rules.length (by omega) (fun i => ((i : Int), (plL l s i).map natI)) ((plL l s l.rules.length).map natI) (fun i hi => by
    obtain ⟨y, hr, hs, _⟩ := rule_at l hi
    have hlen := plL_len l s i
    simp only [grammar_Of_l1, lt_len hi, cond_true, idx_nat, hr, hs, Option.bind_some, w64_succ' hi (show l.rules.length ≤ 9223372036854775807 by omega), app8 (show ((plL l s i).map natI).length ≤ 1000000 by rw [List.length_map]; omega)]
    rw [plL_succ]
    show Option.bind (bif symAt l i == s then _ else _) _ = _
    cases symAt l i == s with
    | true => simp only [cond_true, Option.bind_some, if_true, List.map_append, List.map_cons, List.map_nil]; rfl
    | false => simp) (by simp only [grammar_Of_l1, lt_len', cond_false])
  have h' : loopN (grammar_Of_l1 l s) fuel (0, []) = some ((plL l s l.rules.length).map natI) := by simpa [plL] using this
  rw [h', Option.bind_some]
theorem ofh_eq (l : La) (s : Int) (h : l.rules.length ≤ 1000000) : grammar_Of_h l s = some ((plL l s l.rules.length).map natI) := of_eq l s h
end Go.Proofs.Ytfkddbccogakoaa
