/- Loops over lists as runs over lists. -/
import Derived.Test.YtpcfkflhnkfjjaaPl
import Derived.Test.YtpcfkflhnkfjjaaOpo
set_option linter.unusedVariables false
set_option linter.unusedSimpArgs false
namespace Go.Proofs.Ytpcfkflhnkfjjaa
open Go Go.RowKit

/-- one round for each element, until one ends the run -/
def runL {σ α β : Type} (f : σ → α → Option (σ ⊕ β)) : List α → σ → Option (σ ⊕ β)
  | [], s => some (.inl s)
  | x :: l, s => Option.bind (f s x) (Sum.elim (fun s' => runL f l s') (fun b => some (.inr b)))
theorem loop_run {σ α β τ γ : Type} {step : τ → Option (τ ⊕ γ)} (xs : List α) (f : σ → α → Option (σ ⊕ β)) (mk : σ → Int → τ) (out : σ ⊕ β → γ) (hlen : xs.length ≤ 9223372036854775807)
    (h : ∀ (i : Nat) (x : α) (s : σ), xs[i]? = some x → step (mk s (i : Int)) = (f s x).map (Sum.elim (fun s' => .inl (mk s' ((i + 1 : Nat) : Int))) (fun b => .inr (out (.inr b)))))
    (he : ∀ s, step (mk s (xs.length : Int)) = some (.inr (out (.inl s)))) (s : σ) : loopN step fuel (mk s 0) = (runL f xs s).map out := by
  have key : ∀ (k i : Nat) (s : σ), i ≤ xs.length → xs.length - i < k → loopN step k (mk s (i : Int)) = (runL f (xs.drop i) s).map out := by
    intro k
    induction k with
    | zero => intro i s _ h; omega
    | succ k ih =>
      intro i s hi hk
      rw [loopN]
      by_cases hn : i = xs.length
      · subst hn
        rw [he, List.drop_eq_nil_of_le (Nat.le_refl _)]
        rfl
      · have hlt : i < xs.length := by omega
        rw [h i xs[i] s (List.getElem?_eq_getElem hlt), List.drop_eq_getElem_cons hlt, runL]
        cases f s xs[i] with
        | none => rfl
        | some r =>
          cases r with
          | inl s' =>
            simp only [Option.map_some, Sum.elim_inl, Option.bind_some]
            exact ih (i + 1) s' (by omega) (by omega)
          | inr b => rfl
  have := key fuel 0 s (Nat.zero_le _) (lt_fuel (by omega))
  simpa using this
theorem lt_len {n i : Nat} (h : i < n) : decide ((i : Int) < (n : Int)) = true := decide_eq_true (by omega)
theorem lt_len' (n : Nat) : decide ((n : Int) < (n : Int)) = false := decide_eq_false (by omega)
theorem w64_succ' {n m : Nat} (h : n < m) (hm : m ≤ 9223372036854775807) : w64 ((n : Int) + 1) = ((n + 1 : Nat) : Int) := w64_succ (by omega)
theorem get_lt {α : Type} {xs : List α} {i : Nat} {x : α} (h : xs[i]? = some x) : i < xs.length := (List.getElem?_eq_some_iff.1 h).1
/-- a loop that goes through all elements -/
theorem loop_acc {α σ τ : Type} {step : τ → Option (τ ⊕ σ)} (xs : List α) (r : σ → α → Option σ) (mk : Int → σ → τ) (hlen : xs.length ≤ 9223372036854775807)
    (hs : ∀ (i : Nat) (x : α) (s : σ), xs[i]? = some x → step (mk (i : Int) s) = (r s x).map fun v => .inl (mk ((i + 1 : Nat) : Int) v)) (he : ∀ s, step (mk (xs.length : Int) s) = some (.inr s)) (s : σ) : loopN step fuel (mk 0 s) = xs.foldlM r s := by
  have h := loop_run (step := step) xs (fun s x => (r s x).map (.inl : σ → σ ⊕ Empty)) (fun s i => mk i s) (Sum.elim id (fun b : Empty => nomatch b)) hlen (fun i x s hx => by
    rw [hs i x s hx]
    cases r s x <;> rfl) (fun s => he s) s
  rw [h]
  clear h hs he
  induction xs generalizing s with
  | nil => rfl
  | cons x xs ih =>
    rw [runL, List.foldlM_cons]
    cases hr : r s x with
    | none => rfl
    | some v =>
      simp only [Option.map_some, Option.bind_some, Sum.elim_inl]
      exact ih (by simp only [List.length_cons] at hlen; omega) v
end Go.Proofs.Ytpcfkflhnkfjjaa
