/- Whether a term is one of a symbol, by both texts (under way: the law CountingIndexes). -/
import Derived.Test.YtfkddbccogakoaaKm
set_option linter.unusedVariables false
set_option linter.unusedSimpArgs false
namespace Go.Proofs.Ytfkddbccogakoaa
open Go Go.RowKit

/-- what is left of m -/
def leftT (m s : Nat) : Int := if s ≤ m then ((m - s : Nat) : Int) else -1
theorem left12 : ∀ (n : Nat) (t : Tm) (m : Nat), m ≤ 10000 → m < n → synthesisref12_left n t (m : Int) = some (leftT m t.size)
  | 0, t, m, _, h => by omega
  | n + 1, t, m, hm, hn => by
    have hsz := sizeT_args (t := t)
    have hstart : w64 ((m : Int) - 1) = leftT m (1 + Tm.sizeL (t.args.take 0)) := by
      rw [w64_eq (by omega) (by omega), List.take_zero]
      show (m : Int) - 1 = leftT m (1 + 0)
      unfold leftT
      split <;> omega
    show synthesisref12_left_b (synthesisref12_left n) t (m : Int) = _
    unfold synthesisref12_left_b
    obtain ⟨r, h1, h2⟩ := loop_ex2 (step := synthesisref12_left_l1 t (synthesisref12_left n)) (min t.args.length m) (by omega)
      (fun i st => st = (leftT m (1 + Tm.sizeL (t.args.take i)), (i : Int))) (fun r => r = leftT m t.size) (fun i st hi hp => by
        subst hp
        have hi1 : i < t.args.length := by omega
        have e1 : t.args[i]? = some t.args[i] := List.getElem?_eq_getElem hi1
        have htk := Tm.sizeL_take_succ hi1
        have hle := Tm.sizeL_take t.args i
        unfold synthesisref12_left_l1
        simp only
        rw [lt_len hi1, cond_true]
        by_cases hp : 1 + Tm.sizeL (t.args.take i) ≤ m
        · left
          have hv : leftT m (1 + Tm.sizeL (t.args.take i)) = ((m - (1 + Tm.sizeL (t.args.take i)) : Nat) : Int) := by unfold leftT; rw [if_pos hp]
          have hq := left12 n t.args[i] (m - (1 + Tm.sizeL (t.args.take i))) (by omega) (by omega)
          have hnext : leftT (m - (1 + Tm.sizeL (t.args.take i))) t.args[i].size = leftT m (1 + Tm.sizeL (t.args.take (i + 1))) := by
            rw [htk]
            unfold leftT
            split <;> split <;> omega
          refine ⟨(leftT m (1 + Tm.sizeL (t.args.take (i + 1))), ((i + 1 : Nat) : Int)), ?_, rfl⟩
          rw [hv, decide_eq_true (show (0 : Int) ≤ ((m - (1 + Tm.sizeL (t.args.take i)) : Nat) : Int) by omega)]
          simp only [Option.bind_some, cond_true, idx_nat, e1, hq, hnext, w64_succ' (show i < 100000 by omega) (by omega)]
        · right
          have hv : leftT m (1 + Tm.sizeL (t.args.take i)) = -1 := by unfold leftT; rw [if_neg hp]
          have hf : leftT m t.size = -1 := by unfold leftT; rw [if_neg (by omega)]
          rw [hv]
          exact ⟨-1, rfl, hf.symm⟩) (fun st hp => by
        subst hp
        unfold synthesisref12_left_l1
        simp only
        by_cases hlm : t.args.length ≤ m
        · rw [Nat.min_eq_left hlm, lt_len', cond_false, List.take_length]
          refine ⟨_, rfl, ?_⟩
          rw [hsz, Nat.add_comm]
        · have hi1 : m < t.args.length := by omega
          have hle := Tm.sizeL_len (t.args.take m)
          have hle2 := Tm.sizeL_take t.args m
          rw [List.length_take] at hle
          have hv : leftT m (1 + Tm.sizeL (t.args.take m)) = -1 := by unfold leftT; rw [if_neg (by omega)]
          have hf : leftT m t.size = -1 := by unfold leftT; rw [if_neg (by omega)]
          rw [Nat.min_eq_right (by omega), lt_len hi1, hv]
          exact ⟨-1, rfl, hf.symm⟩) (w64 ((m : Int) - 1), 0) (by rw [hstart]; rfl)
    rw [h1, h2]
    rfl
theorem small_term (l : La) (t : Tm) : ∃ b, synthesislaw12_small l t = some b ∧ (b = true → l.symbols.length ≤ 12 ∧ l.rules.length ≤ 40 ∧ t.size ≤ 60) := by
  have hleft : synthesisref12_left fuel t 60 = some (leftT 60 t.size) := left12 fuel t 60 (by omega) (lt_fuel (by omega))
  unfold synthesislaw12_small synthesisref12_Small
  by_cases h1 : (l.symbols.length : Int) ≤ 12
  · by_cases h2 : (l.rules.length : Int) ≤ 40
    · rw [decide_eq_true h1, decide_eq_true h2, hleft]
      by_cases h3 : t.size ≤ 60
      · refine ⟨true, ?_, fun _ => ⟨by omega, by omega, h3⟩⟩
        have : decide (0 ≤ leftT 60 t.size) = true := decide_eq_true (by unfold leftT; rw [if_pos h3]; omega)
        simp only [cond_true, Option.bind_some, this]
      · refine ⟨false, ?_, fun h => by cases h⟩
        have : decide (0 ≤ leftT 60 t.size) = false := decide_eq_false (by unfold leftT; rw [if_neg h3]; omega)
        simp only [cond_true, Option.bind_some, this]
    · rw [decide_eq_true h1, decide_eq_false h2]
      exact ⟨false, rfl, fun h => by cases h⟩
  · rw [decide_eq_false h1]
    exact ⟨false, rfl, fun h => by cases h⟩
end Go.Proofs.Ytfkddbccogakoaa
set_option linter.unusedVariables false
set_option linter.unusedSimpArgs false
namespace Go.Proofs.Ytfkddbccogakoaa
open Go Go.RowKit

theorem isL_of (l : La) : ∀ (xs : List Tm) (ys : List Int), xs.length = ys.length → (∀ (i : Nat) (hi : i < xs.length), ∃ a, ys[i]? = some a ∧ isT l xs[i] a = true) → isL l xs ys = true
  | [], [], _, _ => by rw [isL]
  | x :: xs, a :: ys, h, hi => by
    rw [isL, Bool.and_eq_true]
    obtain ⟨b, b1, b2⟩ := hi 0 (by rw [List.length_cons]; omega)
    cases b1
    refine ⟨b2, isL_of l xs ys (by simpa using h) fun i hi2 => ?_⟩
    obtain ⟨b, b1, b2⟩ := hi (i + 1) (by rw [List.length_cons]; omega)
    exact ⟨b, by simpa using b1, by simpa using b2⟩
  | [], _ :: _, h, _ => by simp at h
  | _ :: _, [], h, _ => by simp at h
theorem isT_iff (l : La) (t : Tm) (s : Int) : isT l t s = true ↔ (0 ≤ t.rule ∧ t.rule < (l.rules.length : Int)) ∧ symAt l t.rule.toNat = s ∧ isL l t.args (argAt l t.rule.toNat) = true := by
  obtain ⟨r, xs⟩ := t
  rw [isT]
  simp only [Bool.and_eq_true, decide_eq_true_eq, beq_iff_eq]
  constructor
  · rintro ⟨⟨h1, h2, h3⟩, h4⟩; exact ⟨⟨h1, h2⟩, h3, h4⟩
  · rintro ⟨⟨h1, h2⟩, h3, h4⟩; exact ⟨⟨h1, h2, h3⟩, h4⟩
/-- how both go through the arguments -/
theorem args_or (l : La) (xs : List Tm) (ys : List Int) (hl : xs.length = ys.length) : (isL l xs ys = true) ∨ ∃ i, ∃ hi : i < xs.length, (∀ (j : Nat) (hj : j < xs.length), j < i → ∃ a, ys[j]? = some a ∧ isT l xs[j] a = true) ∧ ∃ a, ys[i]? = some a ∧ isT l xs[i] a = false := by
  have key : ∀ n, n ≤ xs.length → (∀ (j : Nat) (hj : j < xs.length), j < n → ∃ a, ys[j]? = some a ∧ isT l xs[j] a = true) ∨ ∃ i, ∃ hi : i < xs.length, (∀ (j : Nat) (hj : j < xs.length), j < i → ∃ a, ys[j]? = some a ∧ isT l xs[j] a = true) ∧ ∃ a, ys[i]? = some a ∧ isT l xs[i] a = false := by
    intro n
    induction n with
    | zero => intro _; exact .inl fun j _ h => by omega
    | succ n ih =>
      intro hn
      rcases ih (by omega) with h | h
      · have hy : ys[n]? = some ys[n] := List.getElem?_eq_getElem (by omega)
        cases hq : isT l xs[n] ys[n] with
        | true =>
          left
          intro j hj hjn
          by_cases h1 : j < n
          · exact h j hj h1
          · have : j = n := by omega
            subst this
            exact ⟨_, hy, hq⟩
        | false => exact .inr ⟨n, by omega, h, _, hy, hq⟩
      · exact .inr h
  rcases key xs.length (Nat.le_refl _) with h | h
  · exact .inl (isL_of l xs ys hl fun i hi => h i hi hi)
  · exact .inr h
theorem isL_not {l : La} {xs : List Tm} {ys : List Int} {i : Nat} (hi : i < xs.length) {a : Int} (h1 : ys[i]? = some a) (h2 : isT l xs[i] a = false) : isL l xs ys = false := by
  cases h : isL l xs ys with
  | false => rfl
  | true =>
    obtain ⟨b, b1, b2⟩ := isL_get l xs ys i hi h
    rw [h1] at b1
    cases b1
    rw [h2] at b2
    cases b2
theorem is12 {l : La} (hg : GoodL l) : ∀ (f : Nat) (t : Tm) (s : Int), t.size ≤ f → t.size ≤ 1000 → synthesisref12_Is f l s t = some (isT l t s)
  | 0, t, s, h, _ => by have := Tm.size_pos t; omega
  | f + 1, t, s, h, h1000 => by
    have hsa := sizeT_args (t := t)
    have hlb := Tm.sizeL_len t.args
    show synthesisref12_Is_b (synthesisref12_Is f) l s t = _
    unfold synthesisref12_Is_b
    have hiff := isT_iff l t s
    have no : ¬ isT l t s = true → isT l t s = false := fun h => by cases hq : isT l t s with | false => rfl | true => exact absurd hq h
    by_cases h0 : t.rule < 0
    · rw [decide_eq_true h0, no fun h => by have := (hiff.1 h).1; omega]; rfl
    · by_cases h1 : (l.rules.length : Int) ≤ t.rule
      · rw [decide_eq_false h0, decide_eq_true h1, no fun h => by have := (hiff.1 h).1; omega]; rfl
      · obtain ⟨i, hi⟩ := Int.eq_ofNat_of_zero_le (show 0 ≤ t.rule by omega)
        rw [hi] at hiff h0 h1 ⊢
        rw [Int.toNat_natCast] at hiff
        obtain ⟨y, hy, hys, hya, hmem⟩ := rule_at l (show i < l.rules.length by omega)
        rw [decide_eq_false h0, decide_eq_false h1]
        simp only [cond_false, Option.bind_some, idx_nat, hy]
        by_cases h2 : y.symbol = s
        · have e2 : (y.symbol != s) = false := by rw [h2]; exact bne_self_eq_false s
          rw [e2]
          simp only [cond_false]
          by_cases h3 : t.args.length = y.args.length
          · have e3 : ((t.args.length : Int) != (y.args.length : Int)) = false := by rw [h3]; exact bne_self_eq_false _
            rw [e3]
            simp only [cond_false, Option.bind_some]
            have stepT : ∀ (q : Nat) (hq : q < t.args.length) (a : Int), y.args[q]? = some a → synthesisref12_Is_l1 l t (synthesisref12_Is f) y (q : Int) = some (if isT l t.args[q] a = true then .inl ((q + 1 : Nat) : Int) else .inr (.inr false)) := fun q hq a ha => by
              have hx : t.args[q]? = some t.args[q] := List.getElem?_eq_getElem hq
              have hsz := args_size (t := t) (List.getElem_mem hq)
              have hm := is12 hg f t.args[q] a (by omega) (by omega)
              unfold synthesisref12_Is_l1
              rw [lt_len hq, cond_true, idx_nat, hx, Option.bind_some, idx_nat, ha, Option.bind_some, hm, Option.bind_some, w64_succ' (show q < 1000 by omega) (by omega)]
              cases isT l t.args[q] a <;> rfl
            rcases args_or l t.args y.args h3 with hok | ⟨q, hq, hbef, a, ha, hbad⟩
            · obtain ⟨v, v1, v2⟩ := loop_ex2 (step := synthesisref12_Is_l1 l t (synthesisref12_Is f) y) t.args.length (by omega) (fun q st => st = (q : Int)) (fun v => v = .inl ()) (fun q st hq hp => by
                subst hp
                obtain ⟨a, g1, g2⟩ := isL_get l t.args _ q hq hok
                exact .inl ⟨_, by rw [stepT q hq a g1, if_pos g2], rfl⟩) (fun st hp => by
                subst hp
                exact ⟨.inl (), by unfold synthesisref12_Is_l1; rw [lt_len', cond_false], rfl⟩) 0 rfl
              subst v2
              rw [v1, hiff.2 ⟨⟨by omega, by omega⟩, by rw [← hys, h2], by rw [← hya]; exact hok⟩]
              rfl
            · obtain ⟨v, v1, v2⟩ := loop_ex2 (step := synthesisref12_Is_l1 l t (synthesisref12_Is f) y) q (by omega) (fun q st => st = (q : Int)) (fun v => v = .inr false) (fun j st hj hp => by
                subst hp
                obtain ⟨b, g1, g2⟩ := hbef j (by omega) hj
                exact .inl ⟨_, by rw [stepT j (by omega) b g1, if_pos g2], rfl⟩) (fun st hp => by
                subst hp
                exact ⟨.inr false, by rw [stepT q hq a ha, hbad, if_neg (by decide)], rfl⟩) 0 rfl
              subst v2
              rw [v1, no fun h => by have h5 := (hiff.1 h).2.2; rw [← hya, isL_not hq ha hbad] at h5; cases h5]
              rfl
          · have e3 : ((t.args.length : Int) != (y.args.length : Int)) = true := by rw [bne_iff_ne]; omega
            rw [e3, no fun h => by have h5 := isL_len l _ _ (hiff.1 h).2.2; rw [← hya] at h5; exact h3 h5]
            rfl
        · have e2 : (y.symbol != s) = true := by rw [bne_iff_ne]; exact h2
          rw [e2, no fun h => by have h5 := (hiff.1 h).2.1; exact h2 (hys.trans h5)]
          rfl
theorem measure_all {l : La} (hg : GoodL l) : ∀ (f : Nat) (t : Tm) (s : Int), t.size ≤ f → t.size ≤ 1000 → counting_measure f l s t = some (if isT l t s = true then ((t.size : Int), true) else (0, false))
  | 0, t, s, h, _ => by have := Tm.size_pos t; omega
  | f + 1, t, s, h, h1000 => by
    have hsa := sizeT_args (t := t)
    have hlb := Tm.sizeL_len t.args
    show counting_measure_b (counting_measure f) l s t = _
    unfold counting_measure_b
    have hiff := isT_iff l t s
    by_cases h0 : t.rule < 0
    · rw [decide_eq_true h0, if_neg fun h => by have := (hiff.1 h).1; omega]; rfl
    · by_cases h1 : (l.rules.length : Int) ≤ t.rule
      · rw [decide_eq_false h0, decide_eq_true h1, if_neg fun h => by have := (hiff.1 h).1; omega]; rfl
      · obtain ⟨i, hi⟩ := Int.eq_ofNat_of_zero_le (show 0 ≤ t.rule by omega)
        rw [hi] at hiff h0 h1 ⊢
        rw [Int.toNat_natCast] at hiff
        obtain ⟨y, hy, hys, hya, hmem⟩ := rule_at l (show i < l.rules.length by omega)
        have gy := hg.good y hmem
        rw [decide_eq_false h0, decide_eq_false h1]
        simp only [cond_false, Option.bind_some, idx_nat, hy, args_eq gy]
        by_cases h2 : y.symbol = s
        · have e2 : (y.symbol != s) = false := by rw [h2]; exact bne_self_eq_false s
          rw [e2]
          simp only [cond_false]
          by_cases h3 : t.args.length = y.args.length
          · have e3 : ((t.args.length : Int) != (y.args.length : Int)) = false := by rw [h3]; exact bne_self_eq_false _
            rw [e3]
            simp only [cond_false, Option.bind_some]
            have stepT : ∀ (q : Nat) (hq : q < t.args.length) (a : Int), y.args[q]? = some a → counting_measure_l1 l t (counting_measure f) y.args (((1 + Tm.sizeL (t.args.take q) : Nat) : Int), (q : Int)) = some (if isT l t.args[q] a = true then .inl (((1 + Tm.sizeL (t.args.take (q + 1)) : Nat) : Int), ((q + 1 : Nat) : Int)) else .inr (.inr (0, false))) := fun q hq a ha => by
              have hx : t.args[q]? = some t.args[q] := List.getElem?_eq_getElem hq
              have hsz := args_size (t := t) (List.getElem_mem hq)
              have hm := measure_all hg f t.args[q] a (by omega) (by omega)
              have htk := Tm.sizeL_take_succ hq
              have hle := Tm.sizeL_take t.args (q + 1)
              unfold counting_measure_l1
              simp only
              rw [lt_len hq, cond_true, idx_nat, hx, Option.bind_some, idx_nat, ha, Option.bind_some, hm, Option.bind_some]
              cases isT l t.args[q] a with
              | false => rfl
              | true =>
                simp only [if_true, Bool.not_true, cond_false]
                rw [w64_eq (by omega) (by omega), w64_succ' (show q < 1000 by omega) (by omega)]
                congr 3
                omega
            rcases args_or l t.args y.args h3 with hok | ⟨q, hq, hbef, a, ha, hbad⟩
            · obtain ⟨v, v1, v2⟩ := loop_ex2 (step := counting_measure_l1 l t (counting_measure f) y.args) t.args.length (by omega) (fun q st => st = (((1 + Tm.sizeL (t.args.take q) : Nat) : Int), (q : Int))) (fun v => v = .inl (((1 + Tm.sizeL t.args : Nat)) : Int)) (fun q st hq hp => by
                subst hp
                obtain ⟨a, g1, g2⟩ := isL_get l t.args _ q hq hok
                exact .inl ⟨_, by rw [stepT q hq a g1, if_pos g2], rfl⟩) (fun st hp => by
                subst hp
                exact ⟨.inl (((1 + Tm.sizeL t.args : Nat)) : Int), by unfold counting_measure_l1; simp only; rw [lt_len', cond_false, List.take_length], rfl⟩) (1, 0) rfl
              subst v2
              rw [v1, if_pos (hiff.2 ⟨⟨by omega, by omega⟩, by rw [← hys, h2], by rw [← hya]; exact hok⟩)]
              show some ((((1 + Tm.sizeL t.args : Nat)) : Int), true) = _
              rw [hsa, Nat.add_comm]
            · obtain ⟨v, v1, v2⟩ := loop_ex2 (step := counting_measure_l1 l t (counting_measure f) y.args) q (by omega) (fun q st => st = (((1 + Tm.sizeL (t.args.take q) : Nat) : Int), (q : Int))) (fun v => v = .inr (0, false)) (fun j st hj hp => by
                subst hp
                obtain ⟨b, g1, g2⟩ := hbef j (by omega) hj
                exact .inl ⟨_, by rw [stepT j (by omega) b g1, if_pos g2], rfl⟩) (fun st hp => by
                subst hp
                exact ⟨.inr (0, false), by rw [stepT q hq a ha, hbad, if_neg (by decide)], rfl⟩) (1, 0) rfl
              subst v2
              rw [v1, if_neg fun h => by have h5 := (hiff.1 h).2.2; rw [← hya, isL_not hq ha hbad] at h5; cases h5]
              rfl
          · have e3 : ((t.args.length : Int) != (y.args.length : Int)) = true := by rw [bne_iff_ne]; omega
            rw [e3, if_neg fun h => by have h5 := isL_len l _ _ (hiff.1 h).2.2; rw [← hya] at h5; exact h3 h5]
            rfl
        · have e2 : (y.symbol != s) = true := by rw [bne_iff_ne]; exact h2
          rw [e2, if_neg fun h => by have h5 := (hiff.1 h).2.1; exact h2 (hys.trans h5)]
          rfl
end Go.Proofs.Ytfkddbccogakoaa
