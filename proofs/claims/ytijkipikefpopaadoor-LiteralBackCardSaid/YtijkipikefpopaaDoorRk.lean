/- LiteralTuples. -/
import Derived.Test.YtijkipikefpopaaDoorRi
set_option linter.unusedVariables false
set_option linter.unusedSimpArgs false
set_option maxRecDepth 100000
namespace Go.Proofs.YtijkipikefpopaaDoor
open Go Go.RowKit

mutual
def allE (s : ByteArray) : Nat → List Va → Nat → Option (List Va) × Nat
  | 0, _, i => (none, i)
  | k + 1, acc, i => match oneP.ev s i with
    | (none, j) => (none, j)
    | (some v, j) => restE s k (acc ++ [v]) j
/-- behind a value: the end, or a separator and more -/
def restE (s : ByteArray) : Nat → List Va → Nat → Option (List Va) × Nat
  | k, acc, j => if j = s.size then (some acc, j) else match (wordP [44, 32]).ev s j with
    | (none, j') => (none, j')
    | (some _, j') => allE s k acc j'
end
def aOut (x : Option (List Va) × Nat) : List Va × Int × Int := match x with
  | (some l, _) => (l, 0, 0)
  | (none, j) => ([], (j : Int), 8)
theorem sep_pos {s : ByteArray} {j j' : Nat} {u : Unit} (h : (wordP [44, 32]).ev s j = (some u, j')) : j' = j + 2 := by
  have := word_pos s [44, 32] j (by rw [h]; exact fun h => by cases h)
  rw [h] at this
  exact this
theorem all_loop {s : ByteArray} (hs : s.size ≤ 4000000) : ∀ (k : Nat) (acc : List Va) (i n : Nat), s.size - i < k → i ≤ s.size → k < n → acc.length ≤ i → loopN (literal_ParseAll_l1 s) n ((i : Int), acc) = some (aOut (allE s k acc i)) := by
  intro k
  induction k with
  | zero => intro acc i n h; omega
  | succ k ih =>
    intro acc i n hk hi hn ha
    obtain ⟨n, rfl⟩ : ∃ m, n = m + 1 := ⟨n - 1, by omega⟩
    obtain ⟨b, hb, q1, q2, q3⟩ := value_eq hs hi
    have hle := ev_le' (s := s) oneP_good hi
    unfold allE
    rcases hx : oneP.ev s i with ⟨_ | v, j⟩
    · rw [hx] at q1 q2
      refine lp_out ?_
      simp only [literal_ParseAll_l1, hb, Option.bind_some, q1, q2, Option.isSome_none, Bool.not_false, cond_true]
      rfl
    · rw [hx] at q1 q2 q3 hle
      have hv := q3 v rfl
      have happ := app_eq (b := 56) (xs := acc) (ys := [v]) (by simp; omega)
      have hj : j ≤ s.size := hle.2
      have base : literal_ParseAll_l1 s ((i : Int), acc) = (bif ((j : Int) == (s.size : Int)) then (some (.inr (acc ++ [v], 0, 0))) else (Option.bind (literal_reader_word_h ⟨s, (j : Int)⟩ (⟨#[44, 32]⟩ : ByteArray)) fun v4 => (bif (!v4.1) then (some (.inr (([] : List Va), v4.2, 8))) else (some (.inl (v4.2, acc ++ [v])))))) := by
        simp only [literal_ParseAll_l1, hb, Option.bind_some, q1, q2, Option.isSome_some, Bool.not_true, cond_false, hv, happ]
      show _ = some (aOut (restE s k (acc ++ [v]) j))
      unfold restE
      by_cases h : j = s.size
      · rw [if_pos h]
        exact lp_out (by rw [base, show ((j : Int) == (s.size : Int)) = true by simp [h]]; rfl)
      · rw [if_neg h]
        rw [show ((j : Int) == (s.size : Int)) = false by rw [beq_eq_false_iff_ne]; omega, cond_false, sep_eq hs hj] at base
        rcases hw : (wordP [44, 32]).ev s j with ⟨_ | u, j'⟩
        · rw [hw] at base
          exact lp_out base
        · rw [hw] at base
          have hle2 := ev_le' (s := s) (wordP_good (w := [44, 32]) (by decide)) hj
          rw [hw] at hle2
          have hjj := sep_pos hw
          have hij : i ≤ j := hle.1
          have hj2 : j' ≤ s.size := hle2.2
          rw [lp_go (s' := ((j' : Int), acc ++ [v])) base]
          exact ih (acc ++ [v]) j' n (by omega) hj2 (by omega) (by simp; omega)
theorem ParseAll_eq {s : ByteArray} (hs : s.size ≤ 4000000) : literal_ParseAll s = some (if s.size = 0 then ([], 0, 0) else aOut (allE s (s.size + 1) [] 0)) := by
  unfold literal_ParseAll
  by_cases h : s.size = 0
  · rw [if_pos h]
    have : s = ⟨#[]⟩ := ba_ext (by have := size_list s; rw [h] at this; exact List.eq_nil_of_length_eq_zero this.symm)
    rw [this]
    simp
  · rw [if_neg h]
    have hne : (s.toList == (⟨#[]⟩ : ByteArray).toList) = false := by
      rw [beq_eq_false_iff_ne]
      intro h'
      exact h (congrArg ByteArray.size (bytesList_inj h'))
    have hl := all_loop hs (s.size + 1) [] 0 fuel (by omega) (Nat.zero_le _) (lt_fuel (by omega)) (by simp)
    have hl' : loopN (literal_ParseAll_l1 s) fuel (0, []) = _ := hl
    rw [hne, cond_false, hl']
    rfl
/-! the law -/
theorem smalls_some {l : List Va} (hv : ∀ x ∈ l, inV x) (hl : l.length ≤ 9223372036854775807) : ∃ b, synthesislaw02_smalls l = some b ∧ (b = true → l.length ≤ 30) := by
  by_cases h : (30 : Int) < (l.length : Int)
  · exact ⟨false, by simp only [synthesislaw02_smalls, decide_eq_true h, cond_true], fun h => by cases h⟩
  · rcases loop_scan (step := synthesislaw02_smalls_l1 l) (P := fun _ => True) (R := fun b => b = .inr false) (b0 := .inl ()) l.length (fun i hi => by
      have e1 : idx l (i : Int) = some l[i] := by rw [idx_nat, List.getElem?_eq_getElem hi]
      obtain ⟨b, hb⟩ := small5 (hv _ (List.getElem_mem hi))
      cases b with
      | true => exact .inl ⟨by simp only [synthesislaw02_smalls_l1, lt_len hi, cond_true, e1, Option.bind_some, hb, Bool.not_true, cond_false, w64s i (by omega)], trivial⟩
      | false => exact .inr ⟨_, rfl, by simp only [synthesislaw02_smalls_l1, lt_len hi, cond_true, e1, Option.bind_some, hb, Bool.not_false]⟩) (by simp only [synthesislaw02_smalls_l1, lt_len', cond_false]) l.length 0 fuel (by omega) (lt_fuel (by omega)) (fun _ _ => trivial) with ⟨a1, _⟩ | ⟨b, rfl, a1⟩
    · have a1' : loopN (synthesislaw02_smalls_l1 l) fuel 0 = some (.inl ()) := a1
      exact ⟨true, by simp only [synthesislaw02_smalls, decide_eq_false h, cond_false, a1', Option.bind_some, Sum.elim_inl], fun _ => by omega⟩
    · have a1' : loopN (synthesislaw02_smalls_l1 l) fuel 0 = some (.inr false) := a1
      exact ⟨false, by simp only [synthesislaw02_smalls, decide_eq_false h, cond_false, a1', Option.bind_some, Sum.elim_inr], fun h => by cases h⟩
theorem same_self {l : List Va} (hl : l.length ≤ 1000000) (h : ∀ x ∈ l, okV x) : synthesislaw02_same l l = some true := by
  have hb : ((l.length : Int) != (l.length : Int)) = false := by simp
  rcases loop_scan (step := synthesislaw02_same_l1 l l) (P := fun _ => True) (R := fun _ => False) (b0 := .inl ()) l.length (fun i hi => by
    have e1 : idx l (i : Int) = some l[i] := by rw [idx_nat, List.getElem?_eq_getElem hi]
    exact .inl ⟨by simp only [synthesislaw02_same_l1, lt_len hi, cond_true, e1, Option.bind_some, Equal_self (h _ (List.getElem_mem hi)), Bool.not_true, cond_false, w64s i (by omega)], trivial⟩) (by simp only [synthesislaw02_same_l1, lt_len', cond_false]) l.length 0 fuel (by omega) (lt_fuel (by omega)) (fun _ _ => trivial) with ⟨a1, _⟩ | ⟨b, hF, _⟩
  · have a1' : loopN (synthesislaw02_same_l1 l l) fuel 0 = some (.inl ()) := a1
    simp only [synthesislaw02_same, hb, cond_false, a1', Option.bind_some, Sum.elim_inl]
  · exact hF.elim
end Go.Proofs.YtijkipikefpopaaDoor
