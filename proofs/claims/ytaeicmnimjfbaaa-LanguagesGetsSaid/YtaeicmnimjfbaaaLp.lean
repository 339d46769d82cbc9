/- Languages: the language of patterns. -/
import Derived.Test.YtaeicmnimjfbaaaLi
set_option linter.unusedVariables false
set_option linter.unusedSimpArgs false
namespace Go.Proofs.Ytaeicmnimjfbaaa
open Go Go.RowKit

/-- two loops over as many states, each with its own -/
theorem loop_two {σ β σ' β' : Type} {step : σ → Option (σ ⊕ β)} {step' : σ' → Option (σ' ⊕ β')} (n : Nat) (hn : n < 18446744073709551616) (S : Nat → σ) (S' : Nat → σ') (Q : β → β' → Prop)
    (hs : ∀ i, i < n → (step (S i) = some (.inl (S (i + 1))) ∧ step' (S' i) = some (.inl (S' (i + 1)))) ∨ ∃ b b', step (S i) = some (.inr b) ∧ step' (S' i) = some (.inr b') ∧ Q b b')
    (he : ∃ b b', step (S n) = some (.inr b) ∧ step' (S' n) = some (.inr b') ∧ Q b b') : ∃ r r', loopN step fuel (S 0) = some r ∧ loopN step' fuel (S' 0) = some r' ∧ Q r r' := by
  have key : ∀ (k i : Nat), i ≤ n → n - i < k → ∃ r r', loopN step k (S i) = some r ∧ loopN step' k (S' i) = some r' ∧ Q r r' := by
    intro k
    induction k with
    | zero => intro i _ h; omega
    | succ k ih =>
      intro i hi hk
      rw [loopN, loopN]
      by_cases h : i = n
      · subst h
        obtain ⟨b, b', h1, h2, h3⟩ := he
        rw [h1, h2]; exact ⟨b, b', rfl, rfl, h3⟩
      · rcases hs i (by omega) with ⟨h1, h2⟩ | ⟨b, b', h1, h2, h3⟩
        · rw [h1, h2]
          exact ih (i + 1) (by omega) (by omega)
        · rw [h1, h2]; exact ⟨b, b', rfl, rfl, h3⟩
  exact key fuel 0 (Nat.zero_le _) (lt_fuel (by omega))
/-- the literal of one byte -/
def litB (c : UInt8) : ByteArray := (pattern_Literal ⟨#[c]⟩).getD ⟨#[]⟩
set_option maxRecDepth 100000 in
theorem lit_all : (List.range 256).all (fun k => decide (pattern_Literal ⟨#[UInt8.ofNat k]⟩ = synthesisref05_Literal ⟨#[UInt8.ofNat k]⟩) && (pattern_Literal ⟨#[UInt8.ofNat k]⟩).isSome) = true := by kernel_rfl
theorem lit_both (c : UInt8) : pattern_Literal ⟨#[c]⟩ = some (litB c) ∧ synthesisref05_Literal ⟨#[c]⟩ = some (litB c) := by
  have h := List.all_eq_true.1 lit_all c.toNat (List.mem_range.2 (UInt8.toNat_lt c))
  simp only [UInt8.ofNat_toNat, Bool.and_eq_true, decide_eq_true_eq] at h
  unfold litB
  obtain ⟨h1, h2⟩ := h
  rw [← h1]
  cases hp : pattern_Literal ⟨#[c]⟩ with
  | none => rw [hp] at h2; cases h2
  | some x => exact ⟨rfl, rfl⟩
theorem cut_one (a : ByteArray) (i : Nat) (h : i < a.size) : cutS a (i : Int) ((i + 1 : Nat) : Int) = some ⟨#[a[i]]⟩ := by
  unfold cutS
  rw [if_pos (by omega)]
  refine congrArg some ?_
  apply ByteArray.ext
  simp only [ByteArray.data_extract, Int.toNat_natCast]
  apply Array.ext
  · simp; have : i + 1 ≤ a.data.size := h; omega
  · intro j h1 h2
    simp at h2
    subst h2
    simp
    rfl
theorem cut_list (a : ByteArray) (i : Nat) (c : UInt8) (h : a.data.toList[i]? = some c) : cutS a (i : Int) ((i + 1 : Nat) : Int) = some ⟨#[c]⟩ := by
  obtain ⟨h1, h2⟩ := List.getElem?_eq_some_iff.1 h
  have h3 : i < a.size := by rw [size_list]; exact h1
  rw [cut_one a i h3]
  have : a[i] = c := by rw [← h2]; exact (Array.getElem_toList ..).symm
  rw [this]
/-- an equal byte before this one -/
theorem dup_both (a : ByteArray) (i : Nat) (l : List Va) (hi : i < a.size) (hn : a.size ≤ 1000) : ∃ r, loopN (languages_Patterns_l1 a ((i : Int), l)) fuel 0 = some r ∧ loopN (synthesisref16_Patterns_l1 a (i : Int)) fuel 0 = some r ∧ (r = .inl () ∨ r = .inr (nilL, 6)) := by
  obtain ⟨r, r', h1, h2, h3, h4⟩ := loop_two (step := languages_Patterns_l1 a ((i : Int), l)) (step' := synthesisref16_Patterns_l1 a (i : Int)) i (by omega) (fun j => (j : Int)) (fun j => (j : Int)) (fun r r' => r = r' ∧ (r = .inl () ∨ r = .inr (nilL, 6))) (fun j hj => by
    have hi' : i < a.data.toList.length := by rw [← size_list]; exact hi
    have hj' : j < a.data.toList.length := by omega
    have e1 : byt a (i : Int) = some (a.data.toList[i].toNat : Int) := by rw [byt_list, List.getElem?_eq_getElem hi']; rfl
    have e2 : byt a (j : Int) = some (a.data.toList[j].toNat : Int) := by rw [byt_list, List.getElem?_eq_getElem hj']; rfl
    have b1 : decide ((j : Int) < (i : Int)) = true := decide_eq_true (by omega)
    simp only [languages_Patterns_l1, synthesisref16_Patterns_l1, b1, cond_true, e1, e2, Option.bind_some, w64_succ (n := j) (by omega)]
    cases hb : ((a.data.toList[j].toNat : Int) == (a.data.toList[i].toNat : Int)) with
    | true => exact .inr ⟨_, _, rfl, rfl, rfl, .inr rfl⟩
    | false => exact .inl ⟨rfl, rfl⟩) (by
    have b1 : decide ((i : Int) < (i : Int)) = false := decide_eq_false (by omega)
    simp only [languages_Patterns_l1, synthesisref16_Patterns_l1, b1, cond_false]
    exact ⟨_, _, rfl, rfl, rfl, .inl rfl⟩)
  subst h3
  exact ⟨r, by simpa using h1, by simpa using h2, h4⟩
theorem sizeV {α : Type} (f : α → Va) (xs : List α) (i : Nat) (hi : i ≤ xs.length) : ((xs.take i).map f).length = i := by rw [List.length_map, List.length_take]; omega
/-- the literals of the bytes, or the first error -/
theorem walk_both (a : ByteArray) (hn : a.size ≤ 1000) : ∃ r r', loopN (languages_Patterns_l2 a) fuel (0, []) = some r ∧ loopN (synthesisref16_Patterns_l3 a) fuel 0 = some r' ∧
    ((r = .inl (a.data.toList.map fun c => vP (litB c)) ∧ r' = .inl ()) ∨ ∃ e, r = .inr (nilL, e) ∧ r' = .inr (nilL, e)) := by
  have hsz := size_list a
  obtain ⟨r, r', h1, h2, h3⟩ := loop_two (step := languages_Patterns_l2 a) (step' := synthesisref16_Patterns_l3 a) a.size (by omega) (fun i => ((i : Int), (a.data.toList.take i).map fun c => vP (litB c))) (fun i => (i : Int))
    (fun r r' => (r = .inl (a.data.toList.map fun c => vP (litB c)) ∧ r' = .inl ()) ∨ ∃ e, r = .inr (nilL, e) ∧ r' = .inr (nilL, e)) (fun i hi => by
    have hi' : i < a.data.toList.length := by rw [← size_list]; exact hi
    have e0 : a.data.toList[i]? = some a.data.toList[i] := List.getElem?_eq_getElem hi'
    have e1 : byt a (i : Int) = some (a.data.toList[i].toNat : Int) := by rw [byt_list, e0]; rfl
    have b1 : decide ((i : Int) < (a.size : Int)) = true := decide_eq_true (by omega)
    obtain ⟨r, d1, d2, d3⟩ := dup_both a i ((a.data.toList.take i).map fun c => vP (litB c)) hi hn
    have ex : ∀ (x y : Bool), (bif x then some true else some y : Option Bool) = some (x || y) := fun x y => by cases x <;> rfl
    have hl := sizeV (fun c => vP (litB c)) a.data.toList i (by omega)
    have hnext : (a.data.toList.take i).map (fun c => vP (litB c)) ++ [vP (litB a.data.toList[i])] = (a.data.toList.take (i + 1)).map fun c => vP (litB c) := by
      rw [List.take_add_one, e0, List.map_append]; rfl
    simp only [languages_Patterns_l2, synthesisref16_Patterns_l3, b1, cond_true, e1, Option.bind_some, ex]
    cases hb : (decide ((a.data.toList[i].toNat : Int) < 32) || decide (126 < (a.data.toList[i].toNat : Int))) with
    | true =>
      simp only [cond_true]
      exact .inr ⟨_, _, rfl, rfl, .inr ⟨1, rfl, rfl⟩⟩
    | false =>
      simp only [cond_false, d1, d2, Option.bind_some]
      rcases d3 with rfl | rfl
      · refine .inl ⟨?_, ?_⟩
        · simp only [Sum.elim_inl, w64_succ (n := i) (by omega), cut_list a i _ e0, Option.bind_some, (lit_both _).1, value_OfPattern]
          rw [show Va.mk 8 0 (litB a.data.toList[i]) [] = vP (litB a.data.toList[i]) from rfl, app_eq (by rw [hl]; simp; omega), Option.bind_some, hnext]
        · simp only [Sum.elim_inl, w64_succ (n := i) (by omega)]
      · exact .inr ⟨_, _, rfl, rfl, .inr ⟨6, rfl, rfl⟩⟩) (by
    have b1 : decide ((a.size : Int) < (a.size : Int)) = false := decide_eq_false (by omega)
    have ht : a.data.toList.take a.size = a.data.toList := List.take_of_length_le (by omega)
    simp only [languages_Patterns_l2, synthesisref16_Patterns_l3, b1, cond_false, ht]
    exact ⟨_, _, rfl, rfl, .inl ⟨rfl, rfl⟩⟩)
  exact ⟨r, r', by simpa using h1, by simpa using h2, h3⟩
/-- the reference's constants -/
theorem rf_pats (a : ByteArray) (hn : a.size ≤ 100) (n : ByteArray) (b : List Int) (c : List Sy) (base : List Ru) (hb : base.length ≤ 900) : loopN (synthesisref16_Patterns_l2 a) fuel (0, n, b, base, c) = some (n, b, base ++ a.data.toList.map (fun x => rC 2 (vP (litB x))), c) := by
  have hsz := size_list a
  refine loop_mapS a.data.toList (fun x => rC 2 (vP (litB x))) base (fun i l => (i, n, b, l, c)) (fun l => (n, b, l, c)) (by omega) (fun i x hxi => ?_) ?_
  · obtain ⟨h1, h2, h3⟩ := len_take_map a.data.toList (fun x => rC 2 (vP (litB x))) base hxi
    have b1 : decide ((i : Int) < (a.size : Int)) = true := decide_eq_true (by omega)
    simp only [synthesisref16_Patterns_l2, b1, cond_true, w64_succ (n := i) (by omega), cut_list a i _ hxi, Option.bind_some, (lit_both _).2, synthesisref01_OfPattern]
    rw [show Va.mk 8 0 (litB x) [] = vP (litB x) from rfl, rf_constant2 _ _ _ _ _ _ (by rw [h1]; omega), Option.bind_some]
  · have b1 : decide ((a.data.toList.length : Int) < (a.size : Int)) = false := decide_eq_false (by omega)
    simp only [synthesisref16_Patterns_l2, b1, cond_false]
theorem appN_eq {α : Type} {b : Nat} {xs ys : List α} (h : (xs.length + ys.length) * (b + 1) ≤ 140737488355328) (hy : ys ≠ []) : appN b xs ys = some (xs ++ ys) := by
  unfold appN
  cases ys with
  | nil => exact absurd rfl hy
  | cons y l => exact app_eq h
set_option maxRecDepth 100000 in
theorem patterns_both (a : ByteArray) (hn : a.size ≤ 60) : ∃ l e, languages_Patterns a = some (l, e) ∧ synthesisref16_Patterns a = some (l, e) ∧ okL l := by
  have hsz := size_list a
  have hc1 : (bif decide ((a.size : Int) < 1) then some true else some (decide (16 < (a.size : Int))) : Option Bool) = some (decide (a.size = 0) || decide (16 < a.size)) := by
    by_cases h : a.size = 0
    · rw [h]; rfl
    · rw [decide_eq_false (show ¬ (a.size : Int) < 1 by omega), decide_eq_false h]
      simp only [cond_false, Bool.false_or]
      exact congrArg some (decide_eq_decide.2 (by omega))
  have hc2 : (bif (a.toList == (⟨#[]⟩ : ByteArray).toList) then some true else some (decide (16 < (a.size : Int))) : Option Bool) = some (decide (a.size = 0) || decide (16 < a.size)) := by
    have he : (a.toList == (⟨#[]⟩ : ByteArray).toList) = decide (a.size = 0) := by
      rw [ByteArray.toList_eq, ByteArray.toList_eq]
      cases hl : a.data.toList with
      | nil => rw [hl] at hsz; rw [hsz]; rfl
      | cons x l => rw [hl] at hsz; rw [hsz]; rfl
    rw [he]
    by_cases h : a.size = 0
    · rw [h]; rfl
    · rw [decide_eq_false h]
      simp only [cond_false, Bool.false_or]
      exact congrArg some (decide_eq_decide.2 (by omega))
  obtain ⟨r, r', w1, w2, w3⟩ := walk_both a (by omega)
  by_cases hz : (decide (a.size = 0) || decide (16 < a.size)) = true
  · refine ⟨nilL, 2, ?_, ?_, nilL_ok⟩
    · simp only [languages_Patterns, hc1, hz, Option.bind_some, cond_true]; rfl
    · simp only [synthesisref16_Patterns, hc2, hz, Option.bind_some, cond_true]; rfl
  · rw [Bool.not_eq_true] at hz
    rcases w3 with ⟨rfl, rfl⟩ | ⟨e, rfl, rfl⟩
    · have h16 : a.data.toList.length ≤ 16 := by
        rw [Bool.or_eq_false_iff] at hz
        have := of_decide_eq_false hz.2
        omega
      apply Exists.intro
      refine ⟨0, ?_, ?_, ?_⟩
      rotate_left
      · unfold synthesisref16_Patterns
        simp only [hc2, hz, w2, Option.bind_some, cond_false, Sum.elim_inl, synthesisref16_begin_h]
        rw [appN_eq (by simp) (by simp), Option.bind_some]
        repeat (first
          | rw [rf_input2 _ _ _ _ _ (by simp; try omega), Option.bind_some]
          | rw [rf_op2 _ _ _ _ _ _ _ (by simp; try omega) (by simp), Option.bind_some]
          | rw [rf_pats a (by omega) _ _ _ _ (by simp; try omega), Option.bind_some])
      · refine ⟨?_, ?_, ?_, ?_⟩
        · simp [La.inputs]
        · simp [La.symbols]
        · simp [La.rules]; try omega
        · repeat (first | exact nil_ok | exact one_ok (rI_ok _) | exact rOs_ok (by simp) | exact rCf_ok (fun _ => flat_ok rfl) | apply app_ok)
      · unfold languages_Patterns
        simp only [hc1, hz, w1, Option.bind_some, cond_false, Sum.elim_inl, languages_begin_h]
        repeat (first
          | rw [lg_input _ _ _ _ _ (by simp; try omega), Option.bind_some]
          | rw [lg_ops _ _ _ _ _ _ _ (by simp; try omega) (by simp) (by simp), Option.bind_some]
          | rw [lg_constants _ _ _ _ _ _ (by simp; try omega) (by simp; try omega), Option.bind_some])
        simp only [List.map_map]
        rfl
    · refine ⟨nilL, e, ?_, ?_, nilL_ok⟩
      · simp only [languages_Patterns, hc1, hz, w1, Option.bind_some, cond_false, Sum.elim_inr]
      · simp only [synthesisref16_Patterns, hc2, hz, w2, Option.bind_some, cond_false, Sum.elim_inr]
theorem law_LanguagesPatterns (a : ByteArray) (hn : a.size ≤ 9223372036854775807) : synthesislaw16_LanguagesPatterns a = some true := by
  unfold synthesislaw16_LanguagesPatterns
  by_cases h : (60 : Int) < (a.size : Int)
  · simp only [decide_eq_true h, cond_true, alive16, Option.bind_some]
  · obtain ⟨l, e, h1, h2, k⟩ := patterns_both a (by omega)
    simp only [decide_eq_false h, cond_false, h1, h2, Option.bind_some, k.same, beq_self_eq_true, cond_true, alive16]
end Go.Proofs.Ytaeicmnimjfbaaa
