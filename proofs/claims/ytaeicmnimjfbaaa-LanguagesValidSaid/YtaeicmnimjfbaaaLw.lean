/- The languages that are returned are valid, and their start symbols productive: Lists, Reshaping, Vectors, Strings. -/
import Derived.Test.YtaeicmnimjfbaaaLv
set_option linter.unusedVariables false
set_option linter.unusedSimpArgs false
namespace Go.Proofs.Ytaeicmnimjfbaaa
open Go Go.RowKit

theorem loop_all0 {σ β : Type} {step : σ → Option (σ ⊕ β)} (n : Nat) (S : Nat → σ) (b0 : β) (hs : ∀ i, i < n → step (S i) = some (.inl (S (i + 1))) ∨ ∃ b, step (S i) = some (.inr b) ∧ b ≠ b0) :
    ∀ (k i : Nat), loopN step k (S i) = some b0 → ∀ j, i ≤ j → j < n → step (S j) = some (.inl (S (j + 1)))
  | 0, i, h => by cases h
  | k + 1, i, h => fun j hij hj => by
    rw [loopN] at h
    rcases hs i (by omega) with h1 | ⟨b, h1, h2⟩
    · rw [h1] at h
      by_cases he : i = j
      · subst he; exact h1
      · exact loop_all0 n S b0 hs k (i + 1) h j (by omega) hj
    · rw [h1] at h
      injection h with h
      exact absurd h h2
/-- constants that are new each -/
theorem fresh_eq (v : Va) (xs : List Va) (hl : xs.length ≤ 1000) (hv : okV v) (h : ∀ x ∈ xs, okV x) : loopN (languages_checked_l1 v xs) fuel 0 = some (bif xs.any (fun x => eqV x v) then .inr 6 else .inl ()) := by
  have hlp := loop_fuel (step := languages_checked_l1 v xs) xs.length (by omega) (fun i => (i : Int)) (fun i => bif (xs.drop i).any (fun x => eqV x v) then .inr 6 else .inl ()) (fun i hi => by
    have e1 : xs[i]? = some xs[i] := List.getElem?_eq_getElem hi
    have b1 : decide ((i : Int) < (xs.length : Int)) = true := decide_eq_true (by omega)
    have hq := value_Equal_eq (h _ (List.getElem_mem hi)) hv
    have hd := List.drop_eq_getElem_cons hi
    rw [hd, List.any_cons]
    cases hb : eqV xs[i] v with
    | true => exact .inr (by simp only [languages_checked_l1, b1, cond_true, idx_nat, e1, Option.bind_some, hq, hb, Bool.true_or])
    | false => exact .inl ⟨by simp only [languages_checked_l1, b1, cond_true, idx_nat, e1, Option.bind_some, hq, hb, cond_false, w64_succ (n := i) (by omega)], by rw [Bool.false_or]⟩) (by
    simp only [languages_checked_l1, not_lt_len, cond_false, List.drop_length, List.any_nil])
  simpa using hlp
theorem checked_step (xs : List Va) (hl : xs.length ≤ 1000) (h : ∀ x ∈ xs, okV x ∧ shortV x) (i : Nat) (hi : i < xs.length) : ∃ c, value_Check fuel xs[i] = some c ∧ languages_checked_l2 xs (i : Int) = bif c != 0 then some (.inr (.inr c)) else bif (xs.take i).any (fun x => eqV x xs[i]) then some (.inr (.inr 6)) else some (.inl ((i + 1 : Nat) : Int)) := by
  have e1 : xs[i]? = some xs[i] := List.getElem?_eq_getElem hi
  have b1 : decide ((i : Int) < (xs.length : Int)) = true := decide_eq_true (by omega)
  obtain ⟨c, c1, _⟩ := Check_both (h _ (List.getElem_mem hi)).1 (h _ (List.getElem_mem hi)).2
  have hf := fresh_eq xs[i] (xs.take i) (by rw [List.length_take]; omega) (h _ (List.getElem_mem hi)).1 fun x hx => (h x (List.mem_of_mem_take hx)).1
  refine ⟨c, c1, ?_⟩
  simp only [languages_checked_l2, b1, cond_true, idx_nat, e1, Option.bind_some, c1, cut_take0 xs i (by omega), hf, w64_succ (n := i) (by omega)]
  cases c != 0 with
  | true => rfl
  | false => cases (xs.take i).any (fun x => eqV x xs[i]) <;> rfl
theorem checked_tot (xs : List Va) (hl : xs.length ≤ 1000) (h : ∀ x ∈ xs, okV x ∧ shortV x) : ∃ c, languages_checked xs = some c := by
  by_cases h16 : (16 : Int) < (xs.length : Int)
  · exact ⟨2, by simp only [languages_checked, decide_eq_true h16, cond_true]⟩
  · obtain ⟨r, e1, _⟩ := loop_same (step := languages_checked_l2 xs) (step' := languages_checked_l2 xs) xs.length (by omega) (fun i => (i : Int)) (fun i hi => by
      obtain ⟨c, _, c2⟩ := checked_step xs hl h i hi
      rw [c2]
      cases c != 0 with
      | true => exact .inr ⟨_, rfl, rfl⟩
      | false =>
        cases (xs.take i).any (fun x => eqV x xs[i]) with
        | true => exact .inr ⟨_, rfl, rfl⟩
        | false => exact .inl ⟨rfl, rfl⟩) (.inl ()) (by simp only [languages_checked_l2, not_lt_len, cond_false]) (by simp only [languages_checked_l2, not_lt_len, cond_false])
    have e1' : loopN (languages_checked_l2 xs) fuel 0 = some r := by simpa using e1
    refine ⟨Sum.elim (fun _ => 0) id r, ?_⟩
    simp only [languages_checked, decide_eq_false h16, cond_false, e1', Option.bind_some]
    cases r <;> rfl
theorem checked_facts (xs : List Va) (hl : xs.length ≤ 1000) (h : ∀ x ∈ xs, okV x ∧ shortV x) (hc : languages_checked xs = some 0) : xs.length ≤ 16 ∧ (∀ x ∈ xs, value_Check fuel x = some 0) ∧ xs.Pairwise fun a b => value_Equal a b = some false := by
  have h16 := checked_len hc rfl
  unfold languages_checked at hc
  rw [decide_eq_false (show ¬ (16 : Int) < (xs.length : Int) by omega)] at hc
  simp only [cond_false] at hc
  cases hlp : loopN (languages_checked_l2 xs) fuel 0 with
  | none => rw [hlp] at hc; cases hc
  | some o =>
  rw [hlp, Option.bind_some] at hc
  have ho : ∀ c : Int, c ≠ 0 → (.inr c : Unit ⊕ Int) ≠ o := by
    intro c hc0 he
    subst he
    have : (some c : Option Int) = some 0 := hc
    injection this with this
    exact hc0 this
  have hall : ∀ (i : Nat) (hi : i < xs.length), value_Check fuel xs[i] = some 0 ∧ (xs.take i).any (fun x => eqV x xs[i]) = false := by
    intro i hi
    have hk := loop_all0 xs.length (fun i => (i : Int)) o (fun i hi => by
      obtain ⟨c, _, c2⟩ := checked_step xs hl h i hi
      rw [c2]
      cases hc0 : c != 0 with
      | true => exact .inr ⟨_, rfl, ho c (bne_iff_ne.1 hc0)⟩
      | false =>
        cases (xs.take i).any (fun x => eqV x xs[i]) with
        | true => exact .inr ⟨_, rfl, ho 6 (by omega)⟩
        | false => exact .inl rfl) fuel 0 hlp i (Nat.zero_le _) hi
    obtain ⟨c, c1, c2⟩ := checked_step xs hl h i hi
    rw [c2] at hk
    cases hc0 : c != 0 with
    | true => rw [hc0] at hk; cases hk
    | false =>
      rw [hc0] at hk
      refine ⟨by rw [c1, bne_eq_false_iff_eq.1 hc0], ?_⟩
      cases ha : (xs.take i).any (fun x => eqV x xs[i]) with
      | true => rw [ha] at hk; cases hk
      | false => rfl
  refine ⟨h16, fun x hx => ?_, List.pairwise_iff_getElem.2 fun i j hi hj hij => ?_⟩
  · obtain ⟨i, hi, rfl⟩ := List.mem_iff_getElem.1 hx
    exact (hall i hi).1
  · rw [value_Equal_eq (h _ (List.getElem_mem hi)).1 (h _ (List.getElem_mem hj)).1]
    have := (hall j hj).2
    rw [List.any_eq_false] at this
    have hm : xs[i] ∈ xs.take j := by
      rw [List.mem_iff_getElem]
      exact ⟨i, by rw [List.length_take]; omega, List.getElem_take⟩
    have := this _ hm
    rw [Bool.not_eq_true] at this
    rw [this]
theorem pairwise_map' {α : Type} {f : α → Va} {xs : List α} (h : (xs.map f).Pairwise fun a b => value_Equal a b = some false) : (xs.map f).Pairwise fun a b => value_Equal a b = some false := h

/-! closed lists of rules -/
def allDf : List Ru → Bool
  | [] => true
  | a :: l => (l.all fun b => grammar_sameRule a b == some false) && allDf l
theorem allDf_pw : ∀ {l : List Ru}, allDf l = true → l.Pairwise Dif
  | [], _ => .nil
  | a :: l, h => by
    simp only [allDf, Bool.and_eq_true, List.all_eq_true, beq_iff_eq] at h
    exact .cons (fun b hb => h.1 b hb) (allDf_pw h.2)
def inRb (n : Nat) (r : Ru) : Bool := decide (0 ≤ r.symbol) && (decide (r.symbol < (n : Int)) && (decide (r.args.length ≤ 1000) && r.args.all fun a => decide (0 ≤ a) && decide (a < (n : Int))))
theorem inRb_ok {n : Nat} {r : Ru} (h : inRb n r = true) : inR n r := by
  simp only [inRb, Bool.and_eq_true, decide_eq_true_eq, List.all_eq_true] at h
  exact ⟨⟨h.1, h.2.1⟩, h.2.2.1, h.2.2.2⟩
theorem inRb_all {n : Nat} {l : List Ru} (h : l.all (inRb n) = true) : ∀ r ∈ l, inR n r := fun r hr => inRb_ok (List.all_eq_true.1 h r hr)
def okRules (l : La) (rs : List Ru) : Bool := rs.all fun r => grammar_rule l r == some 0
theorem okRules_ok {l : La} {rs : List Ru} (h : okRules l rs = true) : ∀ r ∈ rs, grammar_rule l r = some 0 := fun r hr => by simpa using List.all_eq_true.1 h r hr
theorem start2 (rs : List Ru) (h : rI 0 ∈ rs) : (itr rs 2 (List.replicate 2 false)).getD 0 false = true :=
  (itr_le rs _ 1).2 0 (itr_gets rs (List.replicate 2 false) 0 (rI 0) h rfl (by decide))
theorem consts_in {s : Int} {n : Nat} {vs : List Va} (h0 : 0 ≤ s) (h1 : s < (n : Int)) : ∀ r ∈ vs.map (rC s), inR n r := fun r hr => by
  obtain ⟨v, _, rfl⟩ := List.mem_map.1 hr
  exact ⟨⟨h0, h1⟩, Nat.zero_le _, fun a ha => by cases ha⟩
theorem cc_dif {s t : Int} (h : (s == t) = false) (u v : Va) : Dif (rC s u) (rC t v) := nd_ok (by
  unfold nd
  have e1 : (rC s u).symbol = s := rfl
  have e2 : (rC t v).symbol = t := rfl
  rw [e1, e2, h]
  rfl)
set_option maxRecDepth 100000
theorem lists_valid (ns : List Int) (hn : ns.length ≤ 30) : ∃ l e, languages_Lists ns = some (l, e) ∧ synthesislaw16_valid l e = some true ∧ languages_checked (ns.map vI) = some e := by
  obtain ⟨c, c1⟩ := checked_tot (ns.map vI) (by rw [List.length_map]; omega) (fun v hv => by obtain ⟨n, hn, rfl⟩ := List.mem_map.1 hv; exact ints_short ns n hn)
  have hli := lg_integers ns (by omega)
  by_cases hc : c = 0
  · subst hc
    obtain ⟨h16, hck, hpw⟩ := checked_facts (ns.map vI) (by rw [List.length_map]; omega) (fun v hv => by obtain ⟨n, hn, rfl⟩ := List.mem_map.1 hv; exact ints_short ns n hn) c1
    rw [List.length_map] at h16
    obtain ⟨rs, hq, hrs⟩ : ∃ rs, languages_Lists ns = some (La.mk (⟨#[108, 105, 115, 116, 115]⟩ : ByteArray) [5] [Sy.mk (⟨#[108, 105, 115, 116]⟩ : ByteArray) 5, Sy.mk (⟨#[110, 117, 109, 98, 101, 114]⟩ : ByteArray) 2] rs, 0) ∧ rs = (([rI 0]) ++ (([(⟨#[116, 97, 107, 101]⟩ : ByteArray), (⟨#[100, 114, 111, 112]⟩ : ByteArray), (⟨#[115, 104, 105, 102, 116]⟩ : ByteArray), (⟨#[115, 99, 97, 108, 101]⟩ : ByteArray), (⟨#[97, 98, 111, 118, 101]⟩ : ByteArray)] : List ByteArray).map (rO 0 [0, 1])) ++ (([(⟨#[114, 101, 118, 101, 114, 115, 101]⟩ : ByteArray), (⟨#[115, 111, 114, 116]⟩ : ByteArray), (⟨#[117, 110, 105, 113, 117, 101]⟩ : ByteArray), (⟨#[101, 118, 101, 110]⟩ : ByteArray), (⟨#[114, 117, 110, 110, 105, 110, 103]⟩ : ByteArray)] : List ByteArray).map (rO 0 [0])) ++ (([(⟨#[122, 105, 112]⟩ : ByteArray), (⟨#[97, 112, 112, 101, 110, 100]⟩ : ByteArray)] : List ByteArray).map (rO 0 [0, 0]))) ++ ((ns.map vI).map (rC 1) ++ ((([(⟨#[104, 101, 97, 100]⟩ : ByteArray), (⟨#[108, 97, 115, 116]⟩ : ByteArray), (⟨#[115, 117, 109]⟩ : ByteArray), (⟨#[109, 97, 120, 105, 109, 117, 109]⟩ : ByteArray), (⟨#[109, 105, 110, 105, 109, 117, 109]⟩ : ByteArray), (⟨#[108, 101, 110, 103, 116, 104]⟩ : ByteArray)] : List ByteArray).map (rO 1 [0])) ++ (([(⟨#[101, 108, 101, 109, 101, 110, 116]⟩ : ByteArray), (⟨#[99, 111, 117, 110, 116]⟩ : ByteArray)] : List ByteArray).map (rO 1 [0, 1])))) := by
      apply Exists.intro
      refine ⟨?_, ?_⟩
      · unfold languages_Lists
        simp only [hli, c1, Option.bind_some, bne_self_eq_false, cond_false, languages_begin_h]
        repeat (first
          | rw [lg_input _ _ _ _ _ (by simp; try omega), Option.bind_some]
          | rw [lg_ops _ _ _ _ _ _ _ (by simp; try omega) (by simp) (by simp), Option.bind_some]
          | rw [lg_constants _ _ _ _ _ _ (by simp; try omega) (by simp; try omega), Option.bind_some]
          | rw [h124, Option.bind_some])
      · simp only [List.append_assoc, List.nil_append, List.append_nil]
        try rfl
    refine ⟨_, 0, hq, ?_, c1⟩
    have kA : okRules (La.mk (⟨#[108, 105, 115, 116, 115]⟩ : ByteArray) [5] [Sy.mk (⟨#[108, 105, 115, 116]⟩ : ByteArray) 5, Sy.mk (⟨#[110, 117, 109, 98, 101, 114]⟩ : ByteArray) 2] rs) (([rI 0]) ++ (([(⟨#[116, 97, 107, 101]⟩ : ByteArray), (⟨#[100, 114, 111, 112]⟩ : ByteArray), (⟨#[115, 104, 105, 102, 116]⟩ : ByteArray), (⟨#[115, 99, 97, 108, 101]⟩ : ByteArray), (⟨#[97, 98, 111, 118, 101]⟩ : ByteArray)] : List ByteArray).map (rO 0 [0, 1])) ++ (([(⟨#[114, 101, 118, 101, 114, 115, 101]⟩ : ByteArray), (⟨#[115, 111, 114, 116]⟩ : ByteArray), (⟨#[117, 110, 105, 113, 117, 101]⟩ : ByteArray), (⟨#[101, 118, 101, 110]⟩ : ByteArray), (⟨#[114, 117, 110, 110, 105, 110, 103]⟩ : ByteArray)] : List ByteArray).map (rO 0 [0])) ++ (([(⟨#[122, 105, 112]⟩ : ByteArray), (⟨#[97, 112, 112, 101, 110, 100]⟩ : ByteArray)] : List ByteArray).map (rO 0 [0, 0]))) = true := by kernel_rfl
    have kR : okRules (La.mk (⟨#[108, 105, 115, 116, 115]⟩ : ByteArray) [5] [Sy.mk (⟨#[108, 105, 115, 116]⟩ : ByteArray) 5, Sy.mk (⟨#[110, 117, 109, 98, 101, 114]⟩ : ByteArray) 2] rs) ((([(⟨#[104, 101, 97, 100]⟩ : ByteArray), (⟨#[108, 97, 115, 116]⟩ : ByteArray), (⟨#[115, 117, 109]⟩ : ByteArray), (⟨#[109, 97, 120, 105, 109, 117, 109]⟩ : ByteArray), (⟨#[109, 105, 110, 105, 109, 117, 109]⟩ : ByteArray), (⟨#[108, 101, 110, 103, 116, 104]⟩ : ByteArray)] : List ByteArray).map (rO 1 [0])) ++ (([(⟨#[101, 108, 101, 109, 101, 110, 116]⟩ : ByteArray), (⟨#[99, 111, 117, 110, 116]⟩ : ByteArray)] : List ByteArray).map (rO 1 [0, 1]))) = true := by kernel_rfl
    have dA : allDf ((([rI 0]) ++ (([(⟨#[116, 97, 107, 101]⟩ : ByteArray), (⟨#[100, 114, 111, 112]⟩ : ByteArray), (⟨#[115, 104, 105, 102, 116]⟩ : ByteArray), (⟨#[115, 99, 97, 108, 101]⟩ : ByteArray), (⟨#[97, 98, 111, 118, 101]⟩ : ByteArray)] : List ByteArray).map (rO 0 [0, 1])) ++ (([(⟨#[114, 101, 118, 101, 114, 115, 101]⟩ : ByteArray), (⟨#[115, 111, 114, 116]⟩ : ByteArray), (⟨#[117, 110, 105, 113, 117, 101]⟩ : ByteArray), (⟨#[101, 118, 101, 110]⟩ : ByteArray), (⟨#[114, 117, 110, 110, 105, 110, 103]⟩ : ByteArray)] : List ByteArray).map (rO 0 [0])) ++ (([(⟨#[122, 105, 112]⟩ : ByteArray), (⟨#[97, 112, 112, 101, 110, 100]⟩ : ByteArray)] : List ByteArray).map (rO 0 [0, 0]))) ++ ((([(⟨#[104, 101, 97, 100]⟩ : ByteArray), (⟨#[108, 97, 115, 116]⟩ : ByteArray), (⟨#[115, 117, 109]⟩ : ByteArray), (⟨#[109, 97, 120, 105, 109, 117, 109]⟩ : ByteArray), (⟨#[109, 105, 110, 105, 109, 117, 109]⟩ : ByteArray), (⟨#[108, 101, 110, 103, 116, 104]⟩ : ByteArray)] : List ByteArray).map (rO 1 [0])) ++ (([(⟨#[101, 108, 101, 109, 101, 110, 116]⟩ : ByteArray), (⟨#[99, 111, 117, 110, 116]⟩ : ByteArray)] : List ByteArray).map (rO 1 [0, 1])))) = true := by kernel_rfl
    have nA : noC 1 (([rI 0]) ++ (([(⟨#[116, 97, 107, 101]⟩ : ByteArray), (⟨#[100, 114, 111, 112]⟩ : ByteArray), (⟨#[115, 104, 105, 102, 116]⟩ : ByteArray), (⟨#[115, 99, 97, 108, 101]⟩ : ByteArray), (⟨#[97, 98, 111, 118, 101]⟩ : ByteArray)] : List ByteArray).map (rO 0 [0, 1])) ++ (([(⟨#[114, 101, 118, 101, 114, 115, 101]⟩ : ByteArray), (⟨#[115, 111, 114, 116]⟩ : ByteArray), (⟨#[117, 110, 105, 113, 117, 101]⟩ : ByteArray), (⟨#[101, 118, 101, 110]⟩ : ByteArray), (⟨#[114, 117, 110, 110, 105, 110, 103]⟩ : ByteArray)] : List ByteArray).map (rO 0 [0])) ++ (([(⟨#[122, 105, 112]⟩ : ByteArray), (⟨#[97, 112, 112, 101, 110, 100]⟩ : ByteArray)] : List ByteArray).map (rO 0 [0, 0]))) = true := by kernel_rfl
    have nR : noC 1 ((([(⟨#[104, 101, 97, 100]⟩ : ByteArray), (⟨#[108, 97, 115, 116]⟩ : ByteArray), (⟨#[115, 117, 109]⟩ : ByteArray), (⟨#[109, 97, 120, 105, 109, 117, 109]⟩ : ByteArray), (⟨#[109, 105, 110, 105, 109, 117, 109]⟩ : ByteArray), (⟨#[108, 101, 110, 103, 116, 104]⟩ : ByteArray)] : List ByteArray).map (rO 1 [0])) ++ (([(⟨#[101, 108, 101, 109, 101, 110, 116]⟩ : ByteArray), (⟨#[99, 111, 117, 110, 116]⟩ : ByteArray)] : List ByteArray).map (rO 1 [0, 1]))) = true := by kernel_rfl
    have iA : (([rI 0]) ++ (([(⟨#[116, 97, 107, 101]⟩ : ByteArray), (⟨#[100, 114, 111, 112]⟩ : ByteArray), (⟨#[115, 104, 105, 102, 116]⟩ : ByteArray), (⟨#[115, 99, 97, 108, 101]⟩ : ByteArray), (⟨#[97, 98, 111, 118, 101]⟩ : ByteArray)] : List ByteArray).map (rO 0 [0, 1])) ++ (([(⟨#[114, 101, 118, 101, 114, 115, 101]⟩ : ByteArray), (⟨#[115, 111, 114, 116]⟩ : ByteArray), (⟨#[117, 110, 105, 113, 117, 101]⟩ : ByteArray), (⟨#[101, 118, 101, 110]⟩ : ByteArray), (⟨#[114, 117, 110, 110, 105, 110, 103]⟩ : ByteArray)] : List ByteArray).map (rO 0 [0])) ++ (([(⟨#[122, 105, 112]⟩ : ByteArray), (⟨#[97, 112, 112, 101, 110, 100]⟩ : ByteArray)] : List ByteArray).map (rO 0 [0, 0]))).all (inRb 2) = true := by kernel_rfl
    have iR : ((([(⟨#[104, 101, 97, 100]⟩ : ByteArray), (⟨#[108, 97, 115, 116]⟩ : ByteArray), (⟨#[115, 117, 109]⟩ : ByteArray), (⟨#[109, 97, 120, 105, 109, 117, 109]⟩ : ByteArray), (⟨#[109, 105, 110, 105, 109, 117, 109]⟩ : ByteArray), (⟨#[108, 101, 110, 103, 116, 104]⟩ : ByteArray)] : List ByteArray).map (rO 1 [0])) ++ (([(⟨#[101, 108, 101, 109, 101, 110, 116]⟩ : ByteArray), (⟨#[99, 111, 117, 110, 116]⟩ : ByteArray)] : List ByteArray).map (rO 1 [0, 1]))).all (inRb 2) = true := by kernel_rfl
    have hlen : rs.length ≤ 96 := by rw [hrs]; simp; omega
    have hin : ∀ r ∈ rs, inR 2 r := fun r hr => by
      rw [hrs] at hr
      rcases List.mem_append.1 hr with h | h
      · exact inRb_all iA r h
      · rcases List.mem_append.1 h with h | h
        · exact consts_in (by decide) (by decide) r h
        · exact inRb_all iR r h
    refine valid_ok _ 2 (check_ok _ (by kernel_rfl) (by kernel_rfl) (by kernel_rfl) (by kernel_rfl) (by kernel_rfl) (by kernel_rfl) hlen (fun r hr => ?_) ?_) rfl (by decide) (by decide) (by show rs.length ≤ 1000; omega) hin (start2 _ ?_)
    · have hr : r ∈ rs := hr
      rw [hrs] at hr
      rcases List.mem_append.1 hr with h | h
      · exact okRules_ok kA r h
      · rcases List.mem_append.1 h with h | h
        · obtain ⟨v, hv, rfl⟩ := List.mem_map.1 h
          obtain ⟨n, _, rfl⟩ := List.mem_map.1 hv
          exact rC_rule _ 1 _ (Sy.mk (⟨#[110, 117, 109, 98, 101, 114]⟩ : ByteArray) 2) (by kernel_rfl) (by kernel_rfl) rfl (hck _ hv)
        · exact okRules_ok kR r h
    · show rs.Pairwise Dif
      rw [hrs]
      exact put_pw (allDf_pw dA) hpw (fun a ha v => noC_l nA ha v) (fun a ha v => noC_r nR ha v)
    · show rI 0 ∈ rs
      rw [hrs]
      exact List.mem_append_left _ (List.mem_cons_self ..)
  · refine ⟨nilL, c, ?_, valid_nil c hc, c1⟩
    simp only [languages_Lists, hli, c1, Option.bind_some, bne0 hc, cond_true]
    rfl
theorem reshaping_valid (ns : List Int) (hn : ns.length ≤ 30) : ∃ l e, languages_Reshaping ns = some (l, e) ∧ synthesislaw16_valid l e = some true ∧ languages_checked (ns.map vI) = some e := by
  obtain ⟨c, c1⟩ := checked_tot (ns.map vI) (by rw [List.length_map]; omega) (fun v hv => by obtain ⟨n, hn, rfl⟩ := List.mem_map.1 hv; exact ints_short ns n hn)
  have hli := lg_integers ns (by omega)
  by_cases hc : c = 0
  · subst hc
    obtain ⟨h16, hck, hpw⟩ := checked_facts (ns.map vI) (by rw [List.length_map]; omega) (fun v hv => by obtain ⟨n, hn, rfl⟩ := List.mem_map.1 hv; exact ints_short ns n hn) c1
    rw [List.length_map] at h16
    obtain ⟨rs, hq, hrs⟩ : ∃ rs, languages_Reshaping ns = some (La.mk (⟨#[116, 97, 98, 108, 101, 115]⟩ : ByteArray) [7] [Sy.mk (⟨#[116, 97, 98, 108, 101]⟩ : ByteArray) 7, Sy.mk (⟨#[110, 117, 109, 98, 101, 114]⟩ : ByteArray) 2] rs, 0) ∧ rs = (([rI 0]) ++ (([(⟨#[116, 114, 97, 110, 115, 112, 111, 115, 101]⟩ : ByteArray), (⟨#[102, 105, 108, 108]⟩ : ByteArray), (⟨#[112, 105, 118, 111, 116]⟩ : ByteArray)] : List ByteArray).map (rO 0 [0])) ++ (([(⟨#[100, 114, 111, 112, 114, 111, 119]⟩ : ByteArray), (⟨#[100, 114, 111, 112, 99, 111, 108, 117, 109, 110]⟩ : ByteArray), (⟨#[115, 111, 114, 116, 116, 97, 98, 108, 101]⟩ : ByteArray), (⟨#[117, 110, 112, 105, 118, 111, 116]⟩ : ByteArray)] : List ByteArray).map (rO 0 [0, 1])) ++ (([(⟨#[115, 116, 97, 99, 107]⟩ : ByteArray), (⟨#[98, 101, 115, 105, 100, 101]⟩ : ByteArray)] : List ByteArray).map (rO 0 [0, 0]))) ++ ((ns.map vI).map (rC 1) ++ ([])) := by
      apply Exists.intro
      refine ⟨?_, ?_⟩
      · unfold languages_Reshaping
        simp only [hli, c1, Option.bind_some, bne_self_eq_false, cond_false, languages_begin_h]
        repeat (first
          | rw [lg_input _ _ _ _ _ (by simp; try omega), Option.bind_some]
          | rw [lg_ops _ _ _ _ _ _ _ (by simp; try omega) (by simp) (by simp), Option.bind_some]
          | rw [lg_constants _ _ _ _ _ _ (by simp; try omega) (by simp; try omega), Option.bind_some]
          | rw [h124, Option.bind_some])
      · simp only [List.append_assoc, List.nil_append, List.append_nil]
        try rfl
    refine ⟨_, 0, hq, ?_, c1⟩
    have kA : okRules (La.mk (⟨#[116, 97, 98, 108, 101, 115]⟩ : ByteArray) [7] [Sy.mk (⟨#[116, 97, 98, 108, 101]⟩ : ByteArray) 7, Sy.mk (⟨#[110, 117, 109, 98, 101, 114]⟩ : ByteArray) 2] rs) (([rI 0]) ++ (([(⟨#[116, 114, 97, 110, 115, 112, 111, 115, 101]⟩ : ByteArray), (⟨#[102, 105, 108, 108]⟩ : ByteArray), (⟨#[112, 105, 118, 111, 116]⟩ : ByteArray)] : List ByteArray).map (rO 0 [0])) ++ (([(⟨#[100, 114, 111, 112, 114, 111, 119]⟩ : ByteArray), (⟨#[100, 114, 111, 112, 99, 111, 108, 117, 109, 110]⟩ : ByteArray), (⟨#[115, 111, 114, 116, 116, 97, 98, 108, 101]⟩ : ByteArray), (⟨#[117, 110, 112, 105, 118, 111, 116]⟩ : ByteArray)] : List ByteArray).map (rO 0 [0, 1])) ++ (([(⟨#[115, 116, 97, 99, 107]⟩ : ByteArray), (⟨#[98, 101, 115, 105, 100, 101]⟩ : ByteArray)] : List ByteArray).map (rO 0 [0, 0]))) = true := by kernel_rfl
    have kR : okRules (La.mk (⟨#[116, 97, 98, 108, 101, 115]⟩ : ByteArray) [7] [Sy.mk (⟨#[116, 97, 98, 108, 101]⟩ : ByteArray) 7, Sy.mk (⟨#[110, 117, 109, 98, 101, 114]⟩ : ByteArray) 2] rs) ([]) = true := by kernel_rfl
    have dA : allDf ((([rI 0]) ++ (([(⟨#[116, 114, 97, 110, 115, 112, 111, 115, 101]⟩ : ByteArray), (⟨#[102, 105, 108, 108]⟩ : ByteArray), (⟨#[112, 105, 118, 111, 116]⟩ : ByteArray)] : List ByteArray).map (rO 0 [0])) ++ (([(⟨#[100, 114, 111, 112, 114, 111, 119]⟩ : ByteArray), (⟨#[100, 114, 111, 112, 99, 111, 108, 117, 109, 110]⟩ : ByteArray), (⟨#[115, 111, 114, 116, 116, 97, 98, 108, 101]⟩ : ByteArray), (⟨#[117, 110, 112, 105, 118, 111, 116]⟩ : ByteArray)] : List ByteArray).map (rO 0 [0, 1])) ++ (([(⟨#[115, 116, 97, 99, 107]⟩ : ByteArray), (⟨#[98, 101, 115, 105, 100, 101]⟩ : ByteArray)] : List ByteArray).map (rO 0 [0, 0]))) ++ ([])) = true := by kernel_rfl
    have nA : noC 1 (([rI 0]) ++ (([(⟨#[116, 114, 97, 110, 115, 112, 111, 115, 101]⟩ : ByteArray), (⟨#[102, 105, 108, 108]⟩ : ByteArray), (⟨#[112, 105, 118, 111, 116]⟩ : ByteArray)] : List ByteArray).map (rO 0 [0])) ++ (([(⟨#[100, 114, 111, 112, 114, 111, 119]⟩ : ByteArray), (⟨#[100, 114, 111, 112, 99, 111, 108, 117, 109, 110]⟩ : ByteArray), (⟨#[115, 111, 114, 116, 116, 97, 98, 108, 101]⟩ : ByteArray), (⟨#[117, 110, 112, 105, 118, 111, 116]⟩ : ByteArray)] : List ByteArray).map (rO 0 [0, 1])) ++ (([(⟨#[115, 116, 97, 99, 107]⟩ : ByteArray), (⟨#[98, 101, 115, 105, 100, 101]⟩ : ByteArray)] : List ByteArray).map (rO 0 [0, 0]))) = true := by kernel_rfl
    have nR : noC 1 ([]) = true := by kernel_rfl
    have iA : (([rI 0]) ++ (([(⟨#[116, 114, 97, 110, 115, 112, 111, 115, 101]⟩ : ByteArray), (⟨#[102, 105, 108, 108]⟩ : ByteArray), (⟨#[112, 105, 118, 111, 116]⟩ : ByteArray)] : List ByteArray).map (rO 0 [0])) ++ (([(⟨#[100, 114, 111, 112, 114, 111, 119]⟩ : ByteArray), (⟨#[100, 114, 111, 112, 99, 111, 108, 117, 109, 110]⟩ : ByteArray), (⟨#[115, 111, 114, 116, 116, 97, 98, 108, 101]⟩ : ByteArray), (⟨#[117, 110, 112, 105, 118, 111, 116]⟩ : ByteArray)] : List ByteArray).map (rO 0 [0, 1])) ++ (([(⟨#[115, 116, 97, 99, 107]⟩ : ByteArray), (⟨#[98, 101, 115, 105, 100, 101]⟩ : ByteArray)] : List ByteArray).map (rO 0 [0, 0]))).all (inRb 2) = true := by kernel_rfl
    have iR : ([]).all (inRb 2) = true := by kernel_rfl
    have hlen : rs.length ≤ 96 := by rw [hrs]; simp; omega
    have hin : ∀ r ∈ rs, inR 2 r := fun r hr => by
      rw [hrs] at hr
      rcases List.mem_append.1 hr with h | h
      · exact inRb_all iA r h
      · rcases List.mem_append.1 h with h | h
        · exact consts_in (by decide) (by decide) r h
        · exact inRb_all iR r h
    refine valid_ok _ 2 (check_ok _ (by kernel_rfl) (by kernel_rfl) (by kernel_rfl) (by kernel_rfl) (by kernel_rfl) (by kernel_rfl) hlen (fun r hr => ?_) ?_) rfl (by decide) (by decide) (by show rs.length ≤ 1000; omega) hin (start2 _ ?_)
    · have hr : r ∈ rs := hr
      rw [hrs] at hr
      rcases List.mem_append.1 hr with h | h
      · exact okRules_ok kA r h
      · rcases List.mem_append.1 h with h | h
        · obtain ⟨v, hv, rfl⟩ := List.mem_map.1 h
          obtain ⟨n, _, rfl⟩ := List.mem_map.1 hv
          exact rC_rule _ 1 _ (Sy.mk (⟨#[110, 117, 109, 98, 101, 114]⟩ : ByteArray) 2) (by kernel_rfl) (by kernel_rfl) rfl (hck _ hv)
        · exact okRules_ok kR r h
    · show rs.Pairwise Dif
      rw [hrs]
      exact put_pw (allDf_pw dA) hpw (fun a ha v => noC_l nA ha v) (fun a ha v => noC_r nR ha v)
    · show rI 0 ∈ rs
      rw [hrs]
      exact List.mem_append_left _ (List.mem_cons_self ..)
  · refine ⟨nilL, c, ?_, valid_nil c hc, c1⟩
    simp only [languages_Reshaping, hli, c1, Option.bind_some, bne0 hc, cond_true]
    rfl
theorem vectors_valid (ns : List Int) (hn : ns.length ≤ 30) : ∃ l e, languages_Vectors ns = some (l, e) ∧ synthesislaw16_valid l e = some true ∧ languages_checked (ns.map vB) = some e := by
  obtain ⟨c, c1⟩ := checked_tot (ns.map vB) (by rw [List.length_map]; omega) (fun v hv => by obtain ⟨n, hn, rfl⟩ := List.mem_map.1 hv; exact bits_short ns n hn)
  have hli := lg_bits ns (by omega)
  have h124 := lg_integers [1, 2, 4] (by simp)
  by_cases hc : c = 0
  · subst hc
    obtain ⟨h16, hck, hpw⟩ := checked_facts (ns.map vB) (by rw [List.length_map]; omega) (fun v hv => by obtain ⟨n, hn, rfl⟩ := List.mem_map.1 hv; exact bits_short ns n hn) c1
    rw [List.length_map] at h16
    obtain ⟨rs, hq, hrs⟩ : ∃ rs, languages_Vectors ns = some (La.mk (⟨#[118, 101, 99, 116, 111, 114, 115]⟩ : ByteArray) [4] [Sy.mk (⟨#[98, 105, 116, 115]⟩ : ByteArray) 4, Sy.mk (⟨#[110, 117, 109, 98, 101, 114]⟩ : ByteArray) 2] rs, 0) ∧ rs = ([rI 0]) ++ ((ns.map vB).map (rC 0) ++ ((([(⟨#[98, 97, 110, 100]⟩ : ByteArray), (⟨#[98, 111, 114]⟩ : ByteArray), (⟨#[98, 120, 111, 114]⟩ : ByteArray), (⟨#[98, 97, 100, 100]⟩ : ByteArray), (⟨#[98, 115, 117, 98]⟩ : ByteArray), (⟨#[98, 109, 117, 108]⟩ : ByteArray)] : List ByteArray).map (rO 0 [0, 0])) ++ (([(⟨#[98, 110, 111, 116]⟩ : ByteArray)] : List ByteArray).map (rO 0 [0])) ++ (([(⟨#[98, 108, 101, 102, 116]⟩ : ByteArray), (⟨#[98, 114, 105, 103, 104, 116]⟩ : ByteArray), (⟨#[98, 97, 114, 105, 116, 104]⟩ : ByteArray)] : List ByteArray).map (rO 0 [0, 1])) ++ ([rC 1 (vI 1), rC 1 (vI 2), rC 1 (vI 4)]) ++ (([(⟨#[111, 110, 101, 115]⟩ : ByteArray)] : List ByteArray).map (rO 1 [0])))) := by
      apply Exists.intro
      refine ⟨?_, ?_⟩
      · unfold languages_Vectors
        simp only [hli, c1, Option.bind_some, bne_self_eq_false, cond_false, languages_begin_h]
        repeat (first
          | rw [lg_input _ _ _ _ _ (by simp; try omega), Option.bind_some]
          | rw [lg_ops _ _ _ _ _ _ _ (by simp; try omega) (by simp) (by simp), Option.bind_some]
          | rw [lg_constants _ _ _ _ _ _ (by simp; try omega) (by simp; try omega), Option.bind_some]
          | rw [h124, Option.bind_some])
      · simp only [List.append_assoc, List.nil_append, List.append_nil]
        try rfl
    refine ⟨_, 0, hq, ?_, c1⟩
    have kA : okRules (La.mk (⟨#[118, 101, 99, 116, 111, 114, 115]⟩ : ByteArray) [4] [Sy.mk (⟨#[98, 105, 116, 115]⟩ : ByteArray) 4, Sy.mk (⟨#[110, 117, 109, 98, 101, 114]⟩ : ByteArray) 2] rs) ([rI 0]) = true := by kernel_rfl
    have kR : okRules (La.mk (⟨#[118, 101, 99, 116, 111, 114, 115]⟩ : ByteArray) [4] [Sy.mk (⟨#[98, 105, 116, 115]⟩ : ByteArray) 4, Sy.mk (⟨#[110, 117, 109, 98, 101, 114]⟩ : ByteArray) 2] rs) ((([(⟨#[98, 97, 110, 100]⟩ : ByteArray), (⟨#[98, 111, 114]⟩ : ByteArray), (⟨#[98, 120, 111, 114]⟩ : ByteArray), (⟨#[98, 97, 100, 100]⟩ : ByteArray), (⟨#[98, 115, 117, 98]⟩ : ByteArray), (⟨#[98, 109, 117, 108]⟩ : ByteArray)] : List ByteArray).map (rO 0 [0, 0])) ++ (([(⟨#[98, 110, 111, 116]⟩ : ByteArray)] : List ByteArray).map (rO 0 [0])) ++ (([(⟨#[98, 108, 101, 102, 116]⟩ : ByteArray), (⟨#[98, 114, 105, 103, 104, 116]⟩ : ByteArray), (⟨#[98, 97, 114, 105, 116, 104]⟩ : ByteArray)] : List ByteArray).map (rO 0 [0, 1])) ++ ([rC 1 (vI 1), rC 1 (vI 2), rC 1 (vI 4)]) ++ (([(⟨#[111, 110, 101, 115]⟩ : ByteArray)] : List ByteArray).map (rO 1 [0]))) = true := by kernel_rfl
    have dA : allDf (([rI 0]) ++ ((([(⟨#[98, 97, 110, 100]⟩ : ByteArray), (⟨#[98, 111, 114]⟩ : ByteArray), (⟨#[98, 120, 111, 114]⟩ : ByteArray), (⟨#[98, 97, 100, 100]⟩ : ByteArray), (⟨#[98, 115, 117, 98]⟩ : ByteArray), (⟨#[98, 109, 117, 108]⟩ : ByteArray)] : List ByteArray).map (rO 0 [0, 0])) ++ (([(⟨#[98, 110, 111, 116]⟩ : ByteArray)] : List ByteArray).map (rO 0 [0])) ++ (([(⟨#[98, 108, 101, 102, 116]⟩ : ByteArray), (⟨#[98, 114, 105, 103, 104, 116]⟩ : ByteArray), (⟨#[98, 97, 114, 105, 116, 104]⟩ : ByteArray)] : List ByteArray).map (rO 0 [0, 1])) ++ ([rC 1 (vI 1), rC 1 (vI 2), rC 1 (vI 4)]) ++ (([(⟨#[111, 110, 101, 115]⟩ : ByteArray)] : List ByteArray).map (rO 1 [0])))) = true := by kernel_rfl
    have nA : noC 0 ([rI 0]) = true := by kernel_rfl
    have nR : noC 0 ((([(⟨#[98, 97, 110, 100]⟩ : ByteArray), (⟨#[98, 111, 114]⟩ : ByteArray), (⟨#[98, 120, 111, 114]⟩ : ByteArray), (⟨#[98, 97, 100, 100]⟩ : ByteArray), (⟨#[98, 115, 117, 98]⟩ : ByteArray), (⟨#[98, 109, 117, 108]⟩ : ByteArray)] : List ByteArray).map (rO 0 [0, 0])) ++ (([(⟨#[98, 110, 111, 116]⟩ : ByteArray)] : List ByteArray).map (rO 0 [0])) ++ (([(⟨#[98, 108, 101, 102, 116]⟩ : ByteArray), (⟨#[98, 114, 105, 103, 104, 116]⟩ : ByteArray), (⟨#[98, 97, 114, 105, 116, 104]⟩ : ByteArray)] : List ByteArray).map (rO 0 [0, 1])) ++ ([rC 1 (vI 1), rC 1 (vI 2), rC 1 (vI 4)]) ++ (([(⟨#[111, 110, 101, 115]⟩ : ByteArray)] : List ByteArray).map (rO 1 [0]))) = true := by kernel_rfl
    have iA : ([rI 0]).all (inRb 2) = true := by kernel_rfl
    have iR : ((([(⟨#[98, 97, 110, 100]⟩ : ByteArray), (⟨#[98, 111, 114]⟩ : ByteArray), (⟨#[98, 120, 111, 114]⟩ : ByteArray), (⟨#[98, 97, 100, 100]⟩ : ByteArray), (⟨#[98, 115, 117, 98]⟩ : ByteArray), (⟨#[98, 109, 117, 108]⟩ : ByteArray)] : List ByteArray).map (rO 0 [0, 0])) ++ (([(⟨#[98, 110, 111, 116]⟩ : ByteArray)] : List ByteArray).map (rO 0 [0])) ++ (([(⟨#[98, 108, 101, 102, 116]⟩ : ByteArray), (⟨#[98, 114, 105, 103, 104, 116]⟩ : ByteArray), (⟨#[98, 97, 114, 105, 116, 104]⟩ : ByteArray)] : List ByteArray).map (rO 0 [0, 1])) ++ ([rC 1 (vI 1), rC 1 (vI 2), rC 1 (vI 4)]) ++ (([(⟨#[111, 110, 101, 115]⟩ : ByteArray)] : List ByteArray).map (rO 1 [0]))).all (inRb 2) = true := by kernel_rfl
    have hlen : rs.length ≤ 96 := by rw [hrs]; simp; omega
    have hin : ∀ r ∈ rs, inR 2 r := fun r hr => by
      rw [hrs] at hr
      rcases List.mem_append.1 hr with h | h
      · exact inRb_all iA r h
      · rcases List.mem_append.1 h with h | h
        · exact consts_in (by decide) (by decide) r h
        · exact inRb_all iR r h
    refine valid_ok _ 2 (check_ok _ (by kernel_rfl) (by kernel_rfl) (by kernel_rfl) (by kernel_rfl) (by kernel_rfl) (by kernel_rfl) hlen (fun r hr => ?_) ?_) rfl (by decide) (by decide) (by show rs.length ≤ 1000; omega) hin (start2 _ ?_)
    · have hr : r ∈ rs := hr
      rw [hrs] at hr
      rcases List.mem_append.1 hr with h | h
      · exact okRules_ok kA r h
      · rcases List.mem_append.1 h with h | h
        · obtain ⟨v, hv, rfl⟩ := List.mem_map.1 h
          obtain ⟨n, _, rfl⟩ := List.mem_map.1 hv
          exact rC_rule _ 0 _ (Sy.mk (⟨#[98, 105, 116, 115]⟩ : ByteArray) 4) (by kernel_rfl) (by kernel_rfl) rfl (hck _ hv)
        · exact okRules_ok kR r h
    · show rs.Pairwise Dif
      rw [hrs]
      exact put_pw (allDf_pw dA) hpw (fun a ha v => noC_l nA ha v) (fun a ha v => noC_r nR ha v)
    · show rI 0 ∈ rs
      rw [hrs]
      exact List.mem_append_left _ (List.mem_cons_self ..)
  · refine ⟨nilL, c, ?_, valid_nil c hc, c1⟩
    simp only [languages_Vectors, hli, c1, Option.bind_some, bne0 hc, cond_true]
    rfl
end Go.Proofs.Ytaeicmnimjfbaaa
