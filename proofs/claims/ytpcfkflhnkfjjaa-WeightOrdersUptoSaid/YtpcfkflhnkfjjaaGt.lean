/- Terms and languages of any size: sizes, depths, the check of a term by both texts. -/
import Derived.Test.YtpcfkflhnkfjjaaGu
import Derived.Test.YtpcfkflhnkfjjaaLo
set_option linter.unusedVariables false
set_option linter.unusedSimpArgs false
namespace Go.Proofs.Ytpcfkflhnkfjjaa
open Go Go.RowKit

/-! values: Small -/
def leftT (m : Nat) (s : Nat) : Int := if s ≤ m then (m : Int) - (s : Int) else -1
theorem sizeL_take {l : List Tm} {i : Nat} (h : i < l.length) : Tm.sizeL (l.take (i + 1)) = Tm.sizeL (l.take i) + l[i].size := by
  rw [List.take_succ_eq_append_getElem h, Tm.sizeL_snoc]
theorem sizeL_take_le (l : List Tm) (i : Nat) : i ≤ l.length → i ≤ Tm.sizeL (l.take i) ∧ Tm.sizeL (l.take i) ≤ Tm.sizeL l := by
  intro hi
  induction i with
  | zero => exact ⟨Nat.zero_le _, by simp [Tm.sizeL]⟩
  | succ i ih =>
    have h1 := ih (by omega)
    have h2 := sizeL_take (l := l) (i := i) (by omega)
    have h3 := Tm.size_pos l[i]
    refine ⟨by omega, ?_⟩
    have : Tm.sizeL l = Tm.sizeL (l.take (i + 1)) + Tm.sizeL (l.drop (i + 1)) := by
      have gen : ∀ a b : List Tm, Tm.sizeL (a ++ b) = Tm.sizeL a + Tm.sizeL b := fun a b => by
        induction a with
        | nil => simp [Tm.sizeL]
        | cons x a ih => simp only [List.cons_append, Tm.sizeL, ih]; omega
      rw [← gen, List.take_append_drop]
    omega
theorem budget_eq : ∀ (n : Nat) (t : Tm) (m : Nat), m ≤ 10000 → m < n → synthesisref13_left n t (m : Int) = some (leftT m t.size) ∧ term_within n t (m : Int) = some (leftT m t.size)
  | 0, t, m, _, h => by omega
  | n + 1, t, m, hm, hn => by
    show synthesisref13_left_b (synthesisref13_left n) t (m : Int) = _ ∧ term_within_b (term_within n) t (m : Int) = _
    obtain ⟨r0, l⟩ := t
    have hsz : (Tm.mk r0 l).size = Tm.sizeL l + 1 := rfl
    have hstart : w64 ((m : Int) - 1) = leftT m (1 + Tm.sizeL (l.take 0)) := by
      rw [w64_eq (by omega) (by omega)]
      simp only [List.take_zero, Tm.sizeL, leftT]
      split <;> omega
    obtain ⟨r, r', h1, h2, h3, h4⟩ := loop_two (step := term_within_l1 (Tm.mk r0 l) (term_within n)) (step' := synthesisref13_left_l1 (Tm.mk r0 l) (synthesisref13_left n)) (min l.length m) (by omega)
      (fun i => (leftT m (1 + Tm.sizeL (l.take i)), (i : Int))) (fun i => (leftT m (1 + Tm.sizeL (l.take i)), (i : Int))) (fun r r' => Sum.elim id id r = leftT m (Tm.sizeL l + 1) ∧ r' = leftT m (Tm.sizeL l + 1)) (fun i hi => by
      have hi1 : i < l.length := by omega
      have e1 : (Tm.mk r0 l).args[i]? = some l[i] := List.getElem?_eq_getElem hi1
      have b1 : decide ((i : Int) < ((Tm.mk r0 l).args.length : Int)) = true := decide_eq_true (by show (i : Int) < (l.length : Int); omega)
      have hle := sizeL_take_le l i (by omega)
      simp only [term_within_l1, synthesisref13_left_l1, b1, cond_true, Option.bind_some, idx_nat, e1]
      by_cases hp : 1 + Tm.sizeL (l.take i) ≤ m
      · have hv : leftT m (1 + Tm.sizeL (l.take i)) = ((m - (1 + Tm.sizeL (l.take i)) : Nat) : Int) := by unfold leftT; rw [if_pos hp]; omega
        obtain ⟨q1, q2⟩ := budget_eq n l[i] (m - (1 + Tm.sizeL (l.take i))) (by omega) (by omega)
        have hnext : leftT (m - (1 + Tm.sizeL (l.take i))) l[i].size = leftT m (1 + Tm.sizeL (l.take (i + 1))) := by
          rw [sizeL_take hi1]
          unfold leftT
          split <;> split <;> omega
        rw [hv, decide_eq_true (show (0 : Int) ≤ ((m - (1 + Tm.sizeL (l.take i)) : Nat) : Int) by omega), decide_eq_false (show ¬ ((m - (1 + Tm.sizeL (l.take i)) : Nat) : Int) < 0 by omega)]
        simp only [cond_true, cond_false, q1, q2, Option.bind_some, hnext, w64_succ (n := i) (by omega)]
        first | exact .inl ⟨rfl, rfl⟩ | exact .inl ⟨trivial, trivial⟩
      · have hv : leftT m (1 + Tm.sizeL (l.take i)) = -1 := by unfold leftT; rw [if_neg hp]
        have hf : leftT m (Tm.sizeL l + 1) = -1 := by unfold leftT; rw [if_neg (by omega)]
        rw [hv, hf]
        exact .inr ⟨_, _, rfl, rfl, rfl, rfl⟩) (by
      have hle := sizeL_take_le l (min l.length m) (by omega)
      by_cases hlm : l.length ≤ m
      · have hmin : min l.length m = l.length := by omega
        have b1 : decide ((l.length : Int) < ((Tm.mk r0 l).args.length : Int)) = false := decide_eq_false (by show ¬ (l.length : Int) < (l.length : Int); omega)
        have hf : leftT m (1 + Tm.sizeL l) = leftT m (Tm.sizeL l + 1) := by rw [Nat.add_comm]
        simp only [hmin, term_within_l1, synthesisref13_left_l1, b1, cond_false, Option.bind_some, List.take_length, hf]
        exact ⟨_, _, rfl, rfl, rfl, rfl⟩
      · have hmin : min l.length m = m := by omega
        rw [hmin] at hle
        have b1 : decide ((m : Int) < ((Tm.mk r0 l).args.length : Int)) = true := decide_eq_true (by show (m : Int) < (l.length : Int); omega)
        have hi1 : m < l.length := by omega
        have e1 : (Tm.mk r0 l).args[m]? = some l[m] := List.getElem?_eq_getElem hi1
        have hv : leftT m (1 + Tm.sizeL (l.take m)) = -1 := by unfold leftT; rw [if_neg (by omega)]
        have hf : leftT m (Tm.sizeL l + 1) = -1 := by unfold leftT; rw [if_neg (by omega)]
        simp only [hmin, term_within_l1, synthesisref13_left_l1, b1, cond_true, Option.bind_some, idx_nat, e1, hv, hf]
        exact ⟨_, _, rfl, rfl, rfl, rfl⟩)
    have h1' : loopN (term_within_l1 (Tm.mk r0 l) (term_within n)) fuel (w64 ((m : Int) - 1), 0) = some r := by rw [hstart]; simpa using h1
    have h2' : loopN (synthesisref13_left_l1 (Tm.mk r0 l) (synthesisref13_left n)) fuel (w64 ((m : Int) - 1), 0) = some r' := by rw [hstart]; simpa using h2
    unfold synthesisref13_left_b term_within_b
    rw [h1', h2', hsz, ← h4]
    refine ⟨rfl, ?_⟩
    rw [h4, ← h3]
    cases r <;> rfl
theorem sizeT_args {t : Tm} : Tm.sizeL t.args + 1 = t.size := by cases t; rfl
theorem len_le_sizeL (l : List Tm) : l.length ≤ Tm.sizeL l := by
  have := (sizeL_take_le l l.length (Nat.le_refl _)).1
  rw [List.take_length] at this
  exact this
/- The law TermChecks. -/

/-- languages as they come in -/
theorem within_eq (t : Tm) (m : Nat) (hm : m ≤ 10000) : synthesisref13_Within t (m : Int) = some (decide (t.size ≤ m)) := by
  unfold synthesisref13_Within
  rw [(budget_eq fuel t m hm (lt_fuel (by omega))).1, Option.bind_some]
  refine congrArg some (decide_eq_decide.2 ?_)
  unfold leftT
  split <;> omega
end Go.Proofs.Ytpcfkflhnkfjjaa
