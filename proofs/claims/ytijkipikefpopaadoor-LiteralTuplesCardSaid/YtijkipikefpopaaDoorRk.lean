/- LiteralTuples. -/
import Derived.Test.YtijkipikefpopaaDoorRi
set_option linter.unusedVariables false
set_option linter.unusedSimpArgs false
set_option maxRecDepth 100000
namespace Go.Proofs.YtijkipikefpopaaDoor
open Go Go.RowKit

mutual
def allE (s : ByteArray) : Nat → List Va → Nat → Option (List Va) × Nat
  | 0, _, i => (none, i)
  | k + 1, acc, i => match oneP.ev s i with
    | (none, j) => (none, j)
    | (some v, j) => restE s k (acc ++ [v]) j
/-- behind a value: the end, or a separator and more -/
def restE (s : ByteArray) : Nat → List Va → Nat → Option (List Va) × Nat
  | k, acc, j => if j = s.size then (some acc, j) else match (wordP [44, 32]).ev s j with
    | (none, j') => (none, j')
    | (some _, j') => allE s k acc j'
end
def aOut (x : Option (List Va) × Nat) : List Va × Int × Int := match x with
  | (some l, _) => (l, 0, 0)
  | (none, j) => ([], (j : Int), 8)
theorem sep_pos {s : ByteArray} {j j' : Nat} {u : Unit} (h : (wordP [44, 32]).ev s j = (some u, j')) : j' = j + 2 := by
  have := word_pos s [44, 32] j (by rw [h]; exact fun h => by cases h)
  rw [h] at this
  exact this
theorem all_loop {s : ByteArray} (hs : s.size ≤ 4000000) : ∀ (k : Nat) (acc : List Va) (i n : Nat), s.size - i < k → i ≤ s.size → k < n → acc.length ≤ i → loopN (literal_ParseAll_l1 s) n ((i : Int), acc) = some (aOut (allE s k acc i)) := by
  intro k
  induction k with
  | zero => intro acc i n h; omega
  | succ k ih =>
    intro acc i n hk hi hn ha
    obtain ⟨n, rfl⟩ : ∃ m, n = m + 1 := ⟨n - 1, by omega⟩
    obtain ⟨b, hb, q1, q2, q3⟩ := value_eq hs hi
    have hle := ev_le' (s := s) oneP_good hi
    unfold allE
    rcases hx : oneP.ev s i with ⟨_ | v, j⟩
    · rw [hx] at q1 q2
      refine lp_out ?_
      simp only [literal_ParseAll_l1, hb, Option.bind_some, q1, q2, Option.isSome_none, Bool.not_false, cond_true]
      rfl
    · rw [hx] at q1 q2 q3 hle
      have hv := q3 v rfl
      have happ := app_eq (b := 56) (xs := acc) (ys := [v]) (by simp; omega)
      have hj : j ≤ s.size := hle.2
      have base : literal_ParseAll_l1 s ((i : Int), acc) = (bif ((j : Int) == (s.size : Int)) then (some (.inr (acc ++ [v], 0, 0))) else (Option.bind (literal_reader_word_h ⟨s, (j : Int)⟩ (⟨#[44, 32]⟩ : ByteArray)) fun v4 => (bif (!v4.1) then (some (.inr (([] : List Va), v4.2, 8))) else (some (.inl (v4.2, acc ++ [v])))))) := by
        simp only [literal_ParseAll_l1, hb, Option.bind_some, q1, q2, Option.isSome_some, Bool.not_true, cond_false, hv, happ]
      show _ = some (aOut (restE s k (acc ++ [v]) j))
      unfold restE
      by_cases h : j = s.size
      · rw [if_pos h]
        exact lp_out (by rw [base, show ((j : Int) == (s.size : Int)) = true by simp [h]]; rfl)
      · rw [if_neg h]
        rw [show ((j : Int) == (s.size : Int)) = false by rw [beq_eq_false_iff_ne]; omega, cond_false, sep_eq hs hj] at base
        rcases hw : (wordP [44, 32]).ev s j with ⟨_ | u, j'⟩
        · rw [hw] at base
          exact lp_out base
        · rw [hw] at base
          have hle2 := ev_le' (s := s) (wordP_good (w := [44, 32]) (by decide)) hj
          rw [hw] at hle2
          have hjj := sep_pos hw
          have hij : i ≤ j := hle.1
          have hj2 : j' ≤ s.size := hle2.2
          rw [lp_go (s' := ((j' : Int), acc ++ [v])) base]
          exact ih (acc ++ [v]) j' n (by omega) hj2 (by omega) (by simp; omega)
theorem ParseAll_eq {s : ByteArray} (hs : s.size ≤ 4000000) : literal_ParseAll s = some (if s.size = 0 then ([], 0, 0) else aOut (allE s (s.size + 1) [] 0)) := by
  unfold literal_ParseAll
  by_cases h : s.size = 0
  · rw [if_pos h]
    have : s = ⟨#[]⟩ := ba_ext (by have := size_list s; rw [h] at this; exact List.eq_nil_of_length_eq_zero this.symm)
    rw [this]
    simp
  · rw [if_neg h]
    have hne : (s.toList == (⟨#[]⟩ : ByteArray).toList) = false := by
      rw [beq_eq_false_iff_ne]
      intro h'
      exact h (congrArg ByteArray.size (bytesList_inj h'))
    have hl := all_loop hs (s.size + 1) [] 0 fuel (by omega) (Nat.zero_le _) (lt_fuel (by omega)) (by simp)
    have hl' : loopN (literal_ParseAll_l1 s) fuel (0, []) = _ := hl
    rw [hne, cond_false, hl']
    rfl
theorem rall_loop {s : ByteArray} (hs : s.size ≤ 4000000) : ∀ (k : Nat) (acc : List Va) (j n : Nat), acc ≠ [] → s.size - j < k + 1 → j ≤ s.size → k + 1 < n → acc.length ≤ j + 1 →
    ∃ r, loopN (synthesisref02_ParseAll_l1 s) n ((j : Int), acc) = some r ∧ Sum.elim (fun l => (l, (0 : Int), (0 : Int))) id r = aOut (restE s k acc j) := by
  intro k
  induction k with
  | zero =>
    intro acc j n hne hk hj hn ha
    obtain ⟨n, rfl⟩ : ∃ m, n = m + 1 := ⟨n - 1, by omega⟩
    obtain rfl : j = s.size := by omega
    unfold restE
    rw [if_pos rfl]
    exact ⟨.inl acc, lp_out (by simp only [synthesisref02_ParseAll_l1, lt_len', cond_false]), rfl⟩
  | succ k ih =>
    intro acc j n hne hk hj hn ha
    obtain ⟨n, rfl⟩ : ∃ m, n = m + 1 := ⟨n - 1, by omega⟩
    unfold restE
    by_cases h : j = s.size
    · subst h
      rw [if_pos rfl]
      exact ⟨.inl acc, lp_out (by simp only [synthesisref02_ParseAll_l1, lt_len', cond_false]), rfl⟩
    · rw [if_neg h]
      have hjs : j < s.size := by omega
      have d0 : decide (0 < ((acc.length : Nat) : Int)) = true := decide_eq_true (by have := List.length_pos_iff.2 hne; omega)
      have hw' := rsep_eq hs hj
      have hle2 := ev_le' (s := s) (wordP_good (w := [44, 32]) (by decide)) hj
      rcases hw : (wordP [44, 32]).ev s j with ⟨_ | u, j'⟩
      · rw [hw] at hw'
        exact ⟨.inr ([], (j' : Int), 8), lp_out (by simp only [synthesisref02_ParseAll_l1, lt_len hjs, cond_true, d0, hw', Option.bind_some, Option.isSome_none, Bool.not_false, Sum.elim_inr]), rfl⟩
      · rw [hw] at hw' hle2
        have hj2 : j' ≤ s.size := hle2.2
        have hjj := sep_pos hw
        obtain ⟨r, hr, q1, q2, q3⟩ := one_eq hs hj2
        have hle := ev_le' (s := s) oneP_good hj2
        show ∃ r, _ ∧ _ = aOut (allE s (k + 1) acc j')
        unfold allE
        rcases hx : oneP.ev s j' with ⟨_ | v, i⟩
        · rw [hx] at q1 q2
          exact ⟨.inr ([], (i : Int), 8), lp_out (by simp only [synthesisref02_ParseAll_l1, lt_len hjs, cond_true, cond_false, d0, hw', Option.bind_some, Option.isSome_some, Bool.not_true, Sum.elim_inl, hr, q1, q2, Option.isSome_none, Bool.not_false]), rfl⟩
        · rw [hx] at q1 q2 q3 hle
          have hv := q3 v rfl
          have happ := app_eq (b := 56) (xs := acc) (ys := [v]) (by simp; omega)
          have step : synthesisref02_ParseAll_l1 s ((j : Int), acc) = some (.inl ((i : Int), acc ++ [v])) := by
            simp only [synthesisref02_ParseAll_l1, lt_len hjs, cond_true, cond_false, d0, hw', Option.bind_some, Option.isSome_some, Bool.not_true, Sum.elim_inl, hr, q1, q2, hv, happ]
          rw [lp_go step]
          have h1 : j' ≤ i := hle.1
          have h2 : i ≤ s.size := hle.2
          exact ih (acc ++ [v]) i n (by simp) (by omega) h2 (by omega) (by simp; omega)
theorem rParseAll_eq {s : ByteArray} (hs : s.size ≤ 4000000) : synthesisref02_ParseAll s = some (if s.size = 0 then ([], 0, 0) else aOut (allE s (s.size + 1) [] 0)) := by
  obtain ⟨n, hn⟩ : ∃ n, fuel = n + 1 := ⟨_, fuel_succ⟩
  have hn' : s.size + 2 < n := by have := lt_fuel (n := s.size + 3) (by omega); omega
  by_cases h : s.size = 0
  · rw [if_pos h]
    have : loopN (synthesisref02_ParseAll_l1 s) fuel (0, []) = some (.inl []) := by
      rw [hn]
      exact lp_out (by simp only [synthesisref02_ParseAll_l1, h, show decide ((0 : Int) < ((0 : Nat) : Int)) = false from rfl, cond_false])
    simp only [synthesisref02_ParseAll, this, Option.bind_some, Sum.elim_inl]
  · rw [if_neg h]
    obtain ⟨r, hr, q1, q2, q3⟩ := one_eq hs (Nat.zero_le s.size)
    have hr' : synthesisref02_one s 0 = some r := hr
    have hle := ev_le' (s := s) oneP_good (Nat.zero_le s.size)
    have d0 : decide ((0 : Int) < ((([] : List Va).length : Nat) : Int)) = false := rfl
    have d1 : decide ((0 : Int) < (s.size : Int)) = true := decide_eq_true (by omega)
    unfold allE
    rcases hx : oneP.ev s 0 with ⟨_ | v, i⟩
    · rw [hx] at q1 q2
      have : loopN (synthesisref02_ParseAll_l1 s) fuel (0, []) = some (.inr ([], (i : Int), 8)) := by
        rw [hn]
        exact lp_out (by simp only [synthesisref02_ParseAll_l1, d1, d0, cond_true, cond_false, Option.bind_some, Sum.elim_inl, hr', q1, q2, Option.isSome_none, Bool.not_false])
      simp only [synthesisref02_ParseAll, this, Option.bind_some, Sum.elim_inr]
      rfl
    · rw [hx] at q1 q2 q3 hle
      have hv := q3 v rfl
      have hi : i ≤ s.size := hle.2
      have happ := app_eq (b := 56) (xs := ([] : List Va)) (ys := [v]) (by simp)
      have step : synthesisref02_ParseAll_l1 s (0, []) = some (.inl ((i : Int), [] ++ [v])) := by
        simp only [synthesisref02_ParseAll_l1, d1, d0, cond_true, cond_false, Option.bind_some, Sum.elim_inl, hr', q1, q2, hv, Option.isSome_some, Bool.not_true, happ]
      obtain ⟨r', hr1, hr2⟩ := rall_loop hs s.size ([] ++ [v]) i n (by simp) (by omega) hi (by omega) (by simp)
      have : loopN (synthesisref02_ParseAll_l1 s) fuel (0, []) = some r' := by rw [hn, lp_go step, hr1]
      simp only [synthesisref02_ParseAll, this, Option.bind_some]
      show _ = some (aOut (restE s s.size ([] ++ [v]) i))
      rw [← hr2]
      cases r' <;> rfl
/-! the law -/
theorem smalls_some {l : List Va} (hv : ∀ x ∈ l, inV x) (hl : l.length ≤ 9223372036854775807) : ∃ b, synthesislaw02_smalls l = some b ∧ (b = true → l.length ≤ 30) := by
  by_cases h : (30 : Int) < (l.length : Int)
  · exact ⟨false, by simp only [synthesislaw02_smalls, decide_eq_true h, cond_true], fun h => by cases h⟩
  · rcases loop_scan (step := synthesislaw02_smalls_l1 l) (P := fun _ => True) (R := fun b => b = .inr false) (b0 := .inl ()) l.length (fun i hi => by
      have e1 : idx l (i : Int) = some l[i] := by rw [idx_nat, List.getElem?_eq_getElem hi]
      obtain ⟨b, hb⟩ := small5 (hv _ (List.getElem_mem hi))
      cases b with
      | true => exact .inl ⟨by simp only [synthesislaw02_smalls_l1, lt_len hi, cond_true, e1, Option.bind_some, hb, Bool.not_true, cond_false, w64s i (by omega)], trivial⟩
      | false => exact .inr ⟨_, rfl, by simp only [synthesislaw02_smalls_l1, lt_len hi, cond_true, e1, Option.bind_some, hb, Bool.not_false]⟩) (by simp only [synthesislaw02_smalls_l1, lt_len', cond_false]) l.length 0 fuel (by omega) (lt_fuel (by omega)) (fun _ _ => trivial) with ⟨a1, _⟩ | ⟨b, rfl, a1⟩
    · have a1' : loopN (synthesislaw02_smalls_l1 l) fuel 0 = some (.inl ()) := a1
      exact ⟨true, by simp only [synthesislaw02_smalls, decide_eq_false h, cond_false, a1', Option.bind_some, Sum.elim_inl], fun _ => by omega⟩
    · have a1' : loopN (synthesislaw02_smalls_l1 l) fuel 0 = some (.inr false) := a1
      exact ⟨false, by simp only [synthesislaw02_smalls, decide_eq_false h, cond_false, a1', Option.bind_some, Sum.elim_inr], fun h => by cases h⟩
theorem same_self {l : List Va} (hl : l.length ≤ 1000000) (h : ∀ x ∈ l, okV x) : synthesislaw02_same l l = some true := by
  have hb : ((l.length : Int) != (l.length : Int)) = false := by simp
  rcases loop_scan (step := synthesislaw02_same_l1 l l) (P := fun _ => True) (R := fun _ => False) (b0 := .inl ()) l.length (fun i hi => by
    have e1 : idx l (i : Int) = some l[i] := by rw [idx_nat, List.getElem?_eq_getElem hi]
    exact .inl ⟨by simp only [synthesislaw02_same_l1, lt_len hi, cond_true, e1, Option.bind_some, Equal_self (h _ (List.getElem_mem hi)), Bool.not_true, cond_false, w64s i (by omega)], trivial⟩) (by simp only [synthesislaw02_same_l1, lt_len', cond_false]) l.length 0 fuel (by omega) (lt_fuel (by omega)) (fun _ _ => trivial) with ⟨a1, _⟩ | ⟨b, hF, _⟩
  · have a1' : loopN (synthesislaw02_same_l1 l l) fuel 0 = some (.inl ()) := a1
    simp only [synthesislaw02_same, hb, cond_false, a1', Option.bind_some, Sum.elim_inl]
  · exact hF.elim
theorem allE_ok {s : ByteArray} : ∀ (k : Nat) (acc : List Va) (i : Nat), (∀ x ∈ acc, okV x) → (∀ l, (allE s k acc i).1 = some l → (∀ x ∈ l, okV x) ∧ l.length ≤ acc.length + k) ∧ (∀ l, (restE s k acc i).1 = some l → (∀ x ∈ l, okV x) ∧ l.length ≤ acc.length + k) := by
  intro k
  induction k with
  | zero =>
    intro acc i ha
    have h1 : ∀ j, (allE s 0 acc j).1 = none := fun j => by unfold allE; rfl
    refine ⟨fun l h => (by rw [h1] at h; cases h), fun l h => ?_⟩
    unfold restE at h
    split at h
    · cases h; exact ⟨ha, by omega⟩
    · rcases hw : (wordP [44, 32]).ev s i with ⟨_ | u, j'⟩
      · rw [hw] at h; cases h
      · rw [hw] at h
        have h : (allE s 0 acc j').1 = some l := h
        rw [h1] at h
        cases h
  | succ k ih =>
    intro acc i ha
    have key : ∀ j l, (allE s (k + 1) acc j).1 = some l → (∀ x ∈ l, okV x) ∧ l.length ≤ acc.length + (k + 1) := fun j l h => by
      unfold allE at h
      rcases hx : oneP.ev s j with ⟨_ | v, j'⟩
      · rw [hx] at h; cases h
      · rw [hx] at h
        have h : (restE s k (acc ++ [v]) j').1 = some l := h
        have hv : okV v := all_ev oneP j okV_one (by rw [hx])
        have := (ih (acc ++ [v]) j' (fun x hx => by
          rcases List.mem_append.1 hx with hx | hx
          · exact ha x hx
          · rw [List.mem_singleton.1 hx]; exact hv)).2 l h
        exact ⟨this.1, by have := this.2; simp at this; omega⟩
    refine ⟨key i, fun l h => ?_⟩
    unfold restE at h
    split at h
    · cases h; exact ⟨ha, by omega⟩
    · rcases hw : (wordP [44, 32]).ev s i with ⟨_ | u, j'⟩
      · rw [hw] at h; cases h
      · rw [hw] at h
        exact key j' l h
theorem aOut_ok {s : ByteArray} (hs : s.size ≤ 10000) : (∀ x ∈ (aOut (allE s (s.size + 1) [] 0)).1, okV x) ∧ (aOut (allE s (s.size + 1) [] 0)).1.length ≤ 1000000 := by
  have := (allE_ok (s := s) (s.size + 1) [] 0 (fun x hx => by cases hx)).1
  generalize allE s (s.size + 1) [] 0 = x at this
  obtain ⟨_ | l, j⟩ := x
  · exact ⟨fun x hx => (by cases hx), Nat.zero_le _⟩
  · have h := this l rfl
    exact ⟨h.1, by have := h.2; simp at this; show l.length ≤ _; omega⟩
theorem law_LiteralTuples (a0 : List Va) (a1 : ByteArray) (h0 : a0.length ≤ 9223372036854775807 ∧ ∀ x ∈ a0, inV x) (h1 : a1.size ≤ 9223372036854775807) : synthesislaw02_LiteralTuples_h a0 a1 = some true := by
  obtain ⟨b, hb, hb30⟩ := smalls_some h0.2 h0.1
  unfold synthesislaw02_LiteralTuples_h
  rw [hb, awake02, Option.bind_some]
  cases b with
  | false => rfl
  | true =>
    have h30 := hb30 rfl
    by_cases h : (1500 : Int) < (a1.size : Int)
    · rw [decide_eq_true h]; rfl
    · have hp : ∃ p, literal_PrintAll_h a0 = some p ∧ synthesisref02_PrintAll a0 = some p := by
        rcases PrintAll_eq (l := a0) (by omega) h0.2 with ⟨c, _, e1, e2⟩ | ⟨e1, e2, _⟩
        · exact ⟨_, e1, e2⟩
        · exact ⟨_, e1, e2⟩
      obtain ⟨p, hp1, hp2⟩ := hp
      have hq : ∃ q : List Va × Int × Int, literal_ParseAll a1 = some q ∧ synthesisref02_ParseAll a1 = some q ∧ (∀ x ∈ q.1, okV x) ∧ q.1.length ≤ 1000000 := by
        refine ⟨_, ParseAll_eq (by omega), rParseAll_eq (by omega), ?_⟩
        split
        · exact ⟨fun x hx => (by cases hx), Nat.zero_le _⟩
        · exact aOut_ok (by omega)
      obtain ⟨q, hq1, hq2, hq3, hq4⟩ := hq
      rw [decide_eq_false h, hp1, hp2, hq1, hq2]
      simp only [Bool.not_true, cond_false, Option.bind_some, same_self hq4 hq3, beq_self_eq_true, cond_true]
end Go.Proofs.YtijkipikefpopaaDoor
