/- Languages: both texts build the same, or give the same error. -/
import Derived.Test.YtaeicmnimjfbaaaVd
set_option linter.unusedVariables false
set_option linter.unusedSimpArgs false
namespace Go.Proofs.Ytaeicmnimjfbaaa
open Go Go.RowKit

def e0 : ByteArray := ⟨#[]⟩
def va0 : Va := Va.mk 0 0 ⟨#[]⟩ []
def rI (s : Int) : Ru := Ru.mk s 1 0 (Va.mk 0 0 ⟨#[]⟩ []) ⟨#[]⟩ []
def rC (s : Int) (v : Va) : Ru := Ru.mk s 2 0 v ⟨#[]⟩ []
def rO (s : Int) (args : List Int) (o : ByteArray) : Ru := Ru.mk s 3 0 (Va.mk 0 0 ⟨#[]⟩ []) o args

/-- a loop that appends one for each, in whatever state -/
theorem loop_mapS {α γ σ β : Type} {step : σ → Option (σ ⊕ β)} (xs : List α) (f : α → γ) (base : List γ) (mk : Int → List γ → σ) (out : List γ → β) (hn : xs.length < 18446744073709551616)
    (hs : ∀ (i : Nat) (x : α), xs[i]? = some x → step (mk (i : Int) (base ++ (xs.take i).map f)) = some (.inl (mk ((i + 1 : Nat) : Int) (base ++ (xs.take i).map f ++ [f x]))))
    (he : step (mk (xs.length : Int) (base ++ xs.map f)) = some (.inr (out (base ++ xs.map f)))) : loopN step fuel (mk 0 base) = some (out (base ++ xs.map f)) := by
  have := loop_end (step := step) xs.length hn (fun i => mk (i : Int) (base ++ (xs.take i).map f)) (out (base ++ xs.map f)) (fun i hi => by
    have h1 : xs[i]? = some xs[i] := List.getElem?_eq_getElem hi
    rw [hs i _ h1]
    have h2 : base ++ (xs.take (i + 1)).map f = base ++ (xs.take i).map f ++ [f xs[i]] := by
      rw [List.take_add_one, h1, List.map_append, List.append_assoc]; rfl
    rw [h2]) (by simpa using he)
  simpa using this
theorem len_take_map {α γ : Type} (xs : List α) (f : α → γ) (base : List γ) {i : Nat} {x : α} (h : xs[i]? = some x) : (base ++ (xs.take i).map f).length = base.length + i ∧ i < xs.length ∧ decide ((i : Int) < (xs.length : Int)) = true := by
  have hi := (List.getElem?_eq_some_iff.1 h).1
  refine ⟨by rw [List.length_append, List.length_map, List.length_take]; omega, hi, decide_eq_true (by omega)⟩
theorem not_lt_len {α : Type} (xs : List α) : decide ((xs.length : Int) < (xs.length : Int)) = false := decide_eq_false (by omega)

theorem lg_input (a : ByteArray) (b : List Int) (c : List Sy) (base : List Ru) (s : Int) (h : base.length ≤ 1000) : languages_writer_input_h a b c base s = some (base ++ [rI s]) := by
  unfold languages_writer_input_h
  rw [app_eq (by simp; omega)]
  rfl
theorem rf_input (a : ByteArray) (b : List Int) (c : List Sy) (base : List Ru) (s : Int) (h : base.length ≤ 1000) : synthesisref16_writer_input_h a b c base s = some (base ++ [rI s]) := by
  unfold synthesisref16_writer_input_h
  rw [app_eq (by simp; omega)]
  rfl
theorem rf_input2 (a : ByteArray) (b : List Int) (c : List Sy) (base : List Ru) (s : Int) (h : base.length ≤ 1000) : synthesisref16_writer_input_h2 a b c base s = some (base ++ [rI s]) := by
  unfold synthesisref16_writer_input_h2
  rw [app_eq (by simp; omega)]
  rfl
theorem rf_constant (a : ByteArray) (b : List Int) (c : List Sy) (base : List Ru) (s : Int) (v : Va) (h : base.length ≤ 1000) : synthesisref16_writer_constant_h a b c base s v = some (base ++ [rC s v]) := by
  unfold synthesisref16_writer_constant_h
  rw [app_eq (by simp; omega)]
  rfl
theorem rf_constant2 (a : ByteArray) (b : List Int) (c : List Sy) (base : List Ru) (s : Int) (v : Va) (h : base.length ≤ 1000) : synthesisref16_writer_constant_h2 a b c base s v = some (base ++ [rC s v]) := by
  unfold synthesisref16_writer_constant_h2
  rw [app_eq (by simp; omega)]
  rfl
theorem lg_constants (a : ByteArray) (b : List Int) (c : List Sy) (base : List Ru) (s : Int) (vs : List Va) (h : base.length ≤ 900) (hv : vs.length ≤ 100) : languages_writer_constants_h a b c base s vs = some (base ++ vs.map (rC s)) := by
  unfold languages_writer_constants_h
  rw [loop_mapS vs (rC s) base (fun i l => (i, l)) id (by omega) (fun i x hx => by
    obtain ⟨h1, h2, h3⟩ := len_take_map vs (rC s) base hx
    simp only [languages_writer_constants_h_l1, h3, cond_true, idx_nat, hx, Option.bind_some]
    rw [app_eq (by rw [h1]; simp; omega), Option.bind_some, w64_succ (by omega)]
    rfl) (by simp only [languages_writer_constants_h_l1, not_lt_len, cond_false]; rfl)]
  rfl
theorem lg_ops (a : ByteArray) (b : List Int) (c : List Sy) (base : List Ru) (s : Int) (args : List Int) (ns : List ByteArray) (h : base.length ≤ 900) (hv : ns.length ≤ 100) (ha : args.length ≤ 100) : languages_writer_ops_h a b c base s args ns = some (base ++ ns.map (rO s args)) := by
  unfold languages_writer_ops_h
  rw [loop_mapS ns (rO s args) base (fun i l => (i, l)) id (by omega) (fun i x hx => by
    obtain ⟨h1, h2, h3⟩ := len_take_map ns (rO s args) base hx
    simp only [languages_writer_ops_h_l1, h3, cond_true, idx_nat, hx, Option.bind_some]
    rw [app_eq (xs := ([] : List Int)) (by simp; omega), Option.bind_some, app_eq (by rw [h1]; simp; omega), Option.bind_some, w64_succ (by omega)]
    rfl) (by simp only [languages_writer_ops_h_l1, not_lt_len, cond_false]; rfl)]
  rfl
theorem rf_op (a : ByteArray) (b : List Int) (c : List Sy) (base : List Ru) (s : Int) (ns : List ByteArray) (args : List Int) (h : base.length ≤ 900) (hv : ns.length ≤ 100) : synthesisref16_writer_op_h a b c base s ns args = some (base ++ ns.map (rO s args)) := by
  unfold synthesisref16_writer_op_h
  rw [loop_mapS ns (rO s args) base (fun i l => (i, l)) id (by omega) (fun i x hx => by
    obtain ⟨h1, h2, h3⟩ := len_take_map ns (rO s args) base hx
    simp only [synthesisref16_writer_op_h_l1, h3, cond_true, idx_nat, hx, Option.bind_some]
    rw [app_eq (by rw [h1]; simp; omega), Option.bind_some, w64_succ (by omega)]
    rfl) (by simp only [synthesisref16_writer_op_h_l1, not_lt_len, cond_false]; rfl)]
  rfl
theorem rf_op2 (a : ByteArray) (b : List Int) (c : List Sy) (base : List Ru) (s : Int) (ns : List ByteArray) (args : List Int) (h : base.length ≤ 900) (hv : ns.length ≤ 100) : synthesisref16_writer_op_h2 a b c base s ns args = some (base ++ ns.map (rO s args)) := rf_op a b c base s ns args h hv
def vI (n : Int) : Va := Va.mk 2 n ⟨#[]⟩ []
def vB (n : Int) : Va := Va.mk 4 n ⟨#[]⟩ []
def vT (s : ByteArray) : Va := Va.mk 3 0 s []
def vP (s : ByteArray) : Va := Va.mk 8 0 s []
theorem lg_integers (ns : List Int) (h : ns.length ≤ 1000) : languages_integers ns = some (ns.map vI) := by
  unfold languages_integers
  rw [loop_mapS ns vI [] (fun i l => (i, l)) id (by omega) (fun i x hx => by
    obtain ⟨h1, h2, h3⟩ := len_take_map ns vI [] hx
    simp only [languages_integers_l1, h3, cond_true, idx_nat, hx, Option.bind_some, value_OfInt]
    rw [app_eq (by rw [h1]; simp; omega), Option.bind_some, w64_succ (by omega)]
    rfl) (by simp only [languages_integers_l1, not_lt_len, cond_false]; rfl)]
  rfl
/-- at most 17 of them -/
theorem take_get {α : Type} {xs : List α} {n i : Nat} {x : α} (h : (xs.take n)[i]? = some x) : i < n ∧ xs[i]? = some x := by
  rw [List.getElem?_take] at h
  split at h
  · exact ⟨by assumption, h⟩
  · cases h
theorem lt17 {α : Type} (xs : List α) : (bif decide ((((xs.take 17).length : Nat) : Int) < (xs.length : Int)) then some (decide ((((xs.take 17).length : Nat) : Int) < 17)) else (some false : Option Bool)) = some false := by
  rw [List.length_take]
  by_cases h : 17 < xs.length
  · rw [Nat.min_eq_left (by omega), decide_eq_true (by omega)]; rfl
  · rw [Nat.min_eq_right (by omega), decide_eq_false (by omega)]; rfl
theorem rf_values (ns : List Int) (t : Int) (h : ns.length ≤ 1000) : synthesisref16_values ns t = some ((ns.take 17).map fun n => Va.mk t n ⟨#[]⟩ []) := by
  unfold synthesisref16_values
  rw [loop_mapS (ns.take 17) (fun n => Va.mk t n ⟨#[]⟩ []) [] (fun i l => (i, l)) id (by simp; omega) (fun i x hx => by
    obtain ⟨h1, h2, h3⟩ := len_take_map (ns.take 17) (fun n => Va.mk t n ⟨#[]⟩ []) [] hx
    obtain ⟨h4, h5⟩ := take_get hx
    have h6 := (List.getElem?_eq_some_iff.1 h5).1
    have b1 : decide ((i : Int) < (ns.length : Int)) = true := decide_eq_true (by omega)
    have b2 : decide ((i : Int) < 17) = true := decide_eq_true (by omega)
    simp only [synthesisref16_values_l1, b1, b2, cond_true, idx_nat, h5, Option.bind_some]
    rw [app_eq (by rw [h1]; simp; omega), Option.bind_some, w64_succ (by omega)]) (by simp only [synthesisref16_values_l1, lt17, Option.bind_some, cond_false]; rfl)]
  try rfl

/-- the check of constants is one -/
theorem flat_ok {v : Va} (h : v.items = []) : okV v := by
  cases v with
  | mk t n s l =>
    simp only [Va.items] at h
    subst h
    exact ⟨by simp [depV, depVs], by simp [wideV, wideVs]⟩
theorem flat_short {v : Va} (h : v.items = []) (hs : v.text.size ≤ 1152921504606846976) : shortV v := by
  cases v with
  | mk t n s l =>
    simp only [Va.items] at h
    subst h
    exact ⟨hs, trivial⟩
theorem checked_both (xs : List Va) (hl : xs.length ≤ 1000) (h : ∀ x ∈ xs, okV x ∧ shortV x) : ∃ c, languages_checked xs = some c ∧ synthesisref16_check xs = some c := by
  by_cases h16 : (16 : Int) < (xs.length : Int)
  · exact ⟨2, by simp only [languages_checked, decide_eq_true h16, cond_true], by simp only [synthesisref16_check, decide_eq_true h16, cond_true]⟩
  · obtain ⟨r, e1, e2⟩ := loop_same (step := languages_checked_l2 xs) (step' := synthesisref16_check_l2 xs) xs.length (by omega) (fun i => (i : Int)) (fun i hi => by
      have e1 : xs[i]? = some xs[i] := List.getElem?_eq_getElem hi
      have b1 : decide ((i : Int) < (xs.length : Int)) = true := decide_eq_true (by omega)
      have hw := w64_succ (n := i) (by omega)
      obtain ⟨hx1, hx2⟩ := h _ (List.getElem_mem hi)
      obtain ⟨c, k1, k2⟩ := Check_both hx1 hx2
      cases hc : (c != 0) with
      | true => exact .inr ⟨.inr c, by simp only [languages_checked_l2, b1, idx_nat, e1, k1, hc, cond_true, Option.bind_some], by simp only [synthesisref16_check_l2, b1, idx_nat, e1, k2, hc, cond_true, Option.bind_some]⟩
      | false =>
        have hcut : cutL xs 0 (i : Int) = some (xs.take i) := by
          unfold cutL
          rw [if_pos ⟨by omega, by omega, by omega⟩]
          simp
        obtain ⟨q, q1, q2⟩ := loop_same (step := languages_checked_l1 xs[i] (xs.take i)) (step' := synthesisref16_check_l1 xs i) i (by omega) (fun k => (k : Int)) (fun k hk => by
          have hkx : k < xs.length := by omega
          have f1 : xs[k]? = some xs[k] := List.getElem?_eq_getElem hkx
          have f2 : (xs.take i)[k]? = some xs[k] := by rw [List.getElem?_take, if_pos hk]; exact f1
          have c1 : decide ((k : Int) < (((xs.take i).length : Nat) : Int)) = true := decide_eq_true (by rw [List.length_take]; omega)
          have c2 : decide ((k : Int) < (i : Int)) = true := decide_eq_true (by omega)
          have hwk := w64_succ (n := k) (by omega)
          have q1 := value_Equal_eq (h _ (List.getElem_mem hkx)).1 hx1
          have q2 := ref_Equal_eq (h _ (List.getElem_mem hkx)).1 hx1
          cases hq : eqV xs[k] xs[i] with
          | true => exact .inr ⟨.inr 6, by simp only [languages_checked_l1, c1, idx_nat, f2, q1, hq, cond_true, Option.bind_some], by simp only [synthesisref16_check_l1, c2, idx_nat, f1, e1, q2, hq, cond_true, Option.bind_some]⟩
          | false => exact .inl ⟨by simp only [languages_checked_l1, c1, idx_nat, f2, q1, hq, hwk, cond_true, cond_false, Option.bind_some], by simp only [synthesisref16_check_l1, c2, idx_nat, f1, e1, q2, hq, hwk, cond_true, cond_false, Option.bind_some]⟩)
          (.inl ()) (by
            have c1 : decide ((i : Int) < (((xs.take i).length : Nat) : Int)) = false := decide_eq_false (by rw [List.length_take]; omega)
            simp only [languages_checked_l1, c1, cond_false]) (by simp [synthesisref16_check_l1])
        have q1' : loopN (languages_checked_l1 xs[i] (xs.take i)) fuel 0 = some q := by simpa using q1
        have q2' : loopN (synthesisref16_check_l1 xs i) fuel 0 = some q := by simpa using q2
        cases q with
        | inl u => exact .inl ⟨by simp only [languages_checked_l2, b1, idx_nat, e1, k1, hc, hcut, q1', hw, cond_true, cond_false, Option.bind_some, Sum.elim_inl], by simp only [synthesisref16_check_l2, b1, idx_nat, e1, k2, hc, q2', hw, cond_true, cond_false, Option.bind_some, Sum.elim_inl]⟩
        | inr e => exact .inr ⟨.inr e, by simp only [languages_checked_l2, b1, idx_nat, e1, k1, hc, hcut, q1', hw, cond_true, cond_false, Option.bind_some, Sum.elim_inr], by simp only [synthesisref16_check_l2, b1, idx_nat, e1, k2, hc, q2', hw, cond_true, cond_false, Option.bind_some, Sum.elim_inr]⟩)
      (.inl ()) (by simp [languages_checked_l2]) (by simp [synthesisref16_check_l2])
    have e1' : loopN (languages_checked_l2 xs) fuel 0 = some r := by simpa using e1
    have e2' : loopN (synthesisref16_check_l2 xs) fuel 0 = some r := by simpa using e2
    refine ⟨Sum.elim (fun _ => 0) id r, ?_, ?_⟩
    · simp only [languages_checked, decide_eq_false h16, cond_false, e1', Option.bind_some]; cases r <;> rfl
    · simp only [synthesisref16_check, decide_eq_false h16, cond_false, e2', Option.bind_some]; cases r <;> rfl
/-- .. of at most 17 of them -/
theorem checked_both17 {α : Type} (f : α → Va) (ns : List α) (hl : ns.length ≤ 1000) (h : ∀ n ∈ ns, okV (f n) ∧ shortV (f n)) : ∃ c, languages_checked (ns.map f) = some c ∧ synthesisref16_check ((ns.take 17).map f) = some c := by
  by_cases h17 : ns.length ≤ 17
  · rw [List.take_of_length_le h17]
    exact checked_both _ (by simp; omega) fun x hx => by
      obtain ⟨n, hn, rfl⟩ := List.mem_map.1 hx
      exact h n hn
  · refine ⟨2, ?_, ?_⟩
    · have : decide ((16 : Int) < (((ns.map f).length : Nat) : Int)) = true := decide_eq_true (by simp; omega)
      simp only [languages_checked, this, cond_true]
    · have : decide ((16 : Int) < ((((ns.take 17).map f).length : Nat) : Int)) = true := decide_eq_true (by simp; omega)
      simp only [synthesisref16_check, this, cond_true]
end Go.Proofs.Ytaeicmnimjfbaaa
