/- Learned weights by both texts; the law WeightLearns. -/
import Derived.Test.YtpcfkflhnkfjjaaWb
set_option linter.unusedVariables false
set_option linter.unusedSimpArgs false
namespace Go.Proofs.Ytpcfkflhnkfjjaa
open Go Go.RowKit

def zeroR : Ru := Ru.mk 0 0 0 zeroV ⟨#[]⟩ []
/-- one more for each of these rules -/
def add1 (us : List Int) (r : Int) : List Int := us.set r.toNat (w64 ((us[r.toNat]?).getD 0 + 1))
def addR (us rs : List Int) : List Int := rs.foldl add1 us
theorem add1_len (us : List Int) (r : Int) : (add1 us r).length = us.length := by simp [add1]
theorem addR_len (us rs : List Int) : (addR us rs).length = us.length := by
  induction rs generalizing us with
  | nil => rfl
  | cons r rs ih => show (addR (add1 us r) rs).length = _; rw [ih, add1_len]
theorem addR_append (us a b : List Int) : addR us (a ++ b) = addR (addR us a) b := by simp [addR, List.foldl_append]
theorem idx_in {us : List Int} {r : Int} (h : 0 ≤ r ∧ r < (us.length : Int)) : idx us r = some ((us[r.toNat]?).getD 0) := by
  unfold idx
  rw [if_pos h.1, List.getElem?_eq_getElem (by omega)]
  rfl
theorem count_fold (r : List Int → Tm → Option (List Int)) : ∀ (xs : List Tm) (us : List Int), (∀ q ∈ Tm.preL Tm.rule xs, 0 ≤ q ∧ q < (us.length : Int)) → (∀ x ∈ xs, ∀ us' : List Int, us'.length = us.length → r us' x = some (addR us' x.rules)) →
    xs.foldlM (fun s x => Option.bind (r s x) fun v => Option.bind (sameL s v) fun _ => some v) us = some (addR us (Tm.preL Tm.rule xs))
  | [], us, _, _ => rfl
  | x :: xs, us, hq, h => by
    have hp : Tm.preL Tm.rule (x :: xs) = x.rules ++ Tm.preL Tm.rule xs := rfl
    have hsame : sameL us (addR us x.rules) = some () := by unfold sameL; rw [if_pos (addR_len _ _).symm]
    rw [List.foldlM_cons, h x (List.mem_cons_self ..) us rfl, Option.bind_some, hsame, hp, addR_append]
    show List.foldlM _ (addR us x.rules) xs = _
    refine count_fold r xs (addR us x.rules) (fun q hq' => ?_) fun y hy us' hl => h y (List.mem_cons_of_mem _ hy) us' (by rw [hl, addR_len])
    rw [addR_len]
    exact hq q (by rw [hp]; exact List.mem_append_right _ hq')
theorem count_eq : ∀ (n : Nat) (t : Tm) (us : List Int), t.size ≤ n → t.size ≤ 1000 → (∀ q ∈ t.rules, 0 ≤ q ∧ q < (us.length : Int)) → weight_count_h n us t = some (addR us t.rules)
  | 0, t, us, h, _, _ => by have := Tm.size_pos t; omega
  | n + 1, t, us, h, hl, hq => by
    show weight_count_h_b (weight_count_h n) us t = _
    have hal := args_len t
    have hsa := sizeT_args (t := t)
    have hr : t.rules = t.rule :: Tm.preL Tm.rule t.args := pre_mk Tm.rule t
    rw [hr] at hq ⊢
    have h0 := idx_in (hq t.rule (List.mem_cons_self ..))
    unfold weight_count_h_b
    rw [h0]
    simp only [Option.bind_some]
    rw [loop_acc (step := weight_count_h_l1 t (weight_count_h n)) t.args (fun s x => Option.bind (weight_count_h n s x) fun v => Option.bind (sameL s v) fun _ => some v) (fun i s => (i, s)) (by omega) (fun i x s hx => by
      have hi := get_lt hx
      simp only [weight_count_h_l1, lt_len hi, cond_true, idx_nat, hx, Option.bind_some, w64_succ' hi (show t.args.length ≤ 9223372036854775807 by omega)]
      cases weight_count_h n s x with
      | none => rfl
      | some v => simp only [Option.bind_some]; cases sameL s v <;> rfl) (fun s => by simp only [weight_count_h_l1, lt_len', cond_false])]
    show Option.bind (List.foldlM _ (add1 us t.rule) t.args) _ = _
    rw [count_fold (weight_count_h n) t.args (add1 us t.rule) (fun q hq' => by rw [add1_len]; exact hq q (List.mem_cons_of_mem _ hq')) fun x hx us' hl' => count_eq n x us' (by have := args_size hx; omega) (by have := args_size hx; omega) fun q hq' => by
      rw [hl', add1_len]
      refine hq q (List.mem_cons_of_mem _ ?_)
      have sub : ∀ xs : List Tm, x ∈ xs → q ∈ Tm.preL Tm.rule xs := fun xs => by
        induction xs with
        | nil => intro h; cases h
        | cons y ys ih =>
          intro h
          rcases List.mem_cons.1 h with rfl | h
          · exact List.mem_append_left _ hq'
          · exact List.mem_append_right _ (ih h)
      exact sub _ hx]
    rfl
theorem refcount (us rs : List Int) (hl : rs.length ≤ 1000000) (hq : ∀ q ∈ rs, 0 ≤ q ∧ q < (us.length : Int)) : loopN (synthesisref38_Learn_l1 rs) fuel (0, us) = some (addR us rs) := by
  rw [loop_acc (step := synthesisref38_Learn_l1 rs) rs (fun s x => Option.bind (idx s x) fun v => Option.bind (idx s x) fun _ => some (List.set s (Int.toNat x) (w64 (v + 1)))) (fun i s => (i, s)) (by omega) (fun i x s hx => by
    have hi := get_lt hx
    simp only [synthesisref38_Learn_l1, lt_len hi, cond_true, idx_nat, hx, Option.bind_some, w64_succ' hi (show rs.length ≤ 9223372036854775807 by omega)]
    cases idx s x <;> rfl) (fun s => by simp only [synthesisref38_Learn_l1, lt_len', cond_false])]
  clear hl
  induction rs generalizing us with
  | nil => rfl
  | cons r rs ih =>
    rw [List.foldlM_cons, idx_in (hq r (List.mem_cons_self ..))]
    show List.foldlM _ (add1 us r) rs = _
    exact ih (add1 us r) fun q hq' => by rw [add1_len]; exact hq q (List.mem_cons_of_mem _ hq')
/-- numbers of uses: from 0 to a bound -/
def Bd (us : List Int) (b : Int) : Prop := ∀ u ∈ us, 0 ≤ u ∧ u ≤ b
theorem add1_bd {us : List Int} {r b : Int} (h : Bd us b) (hb : 0 ≤ b) (hb2 : b ≤ 1000000) : Bd (add1 us r) (b + 1) := fun u hu => by
  rcases List.mem_or_eq_of_mem_set hu with hu | rfl
  · have := h u hu; omega
  · cases he : us[r.toNat]? with
    | none => simp only [Option.getD_none]; rw [w64_eq (by omega) (by omega)]; omega
    | some v =>
      have := h v (List.mem_of_getElem? he)
      simp only [Option.getD_some]; rw [w64_eq (by omega) (by omega)]; omega
theorem addR_bd : ∀ (rs us : List Int) (b : Int), Bd us b → 0 ≤ b → b + (rs.length : Int) ≤ 1000000 → Bd (addR us rs) (b + rs.length)
  | [], us, b, h, _, _ => by simpa [addR] using h
  | r :: rs, us, b, h, hb, hl => by
    rw [List.length_cons] at hl
    have := addR_bd rs (add1 us r) (b + 1) (add1_bd h hb (by omega)) (by omega) (by omega)
    show Bd (addR (add1 us r) rs) _
    rw [List.length_cons, show b + ((rs.length + 1 : Nat) : Int) = b + 1 + (rs.length : Int) by omega]
    exact this
/-- what one term of a corpus does -/
def learn1 (l : La) (us : List Int) (t : Tm) : List Int ⊕ (List Int × Int) :=
  if t.rule < 0 ∨ (l.rules.length : Int) ≤ t.rule then .inr ([], 1) else
  if (term_Check l ((l.rules[t.rule.toNat]?).getD zeroR).symbol t).getD 0 ≠ 0 then .inr ([], (term_Check l ((l.rules[t.rule.toNat]?).getD zeroR).symbol t).getD 0) else .inl (addR us t.rules)
def InvL (n : Nat) (xs : List Tm) (us : List Int) : Prop := us.length = n ∧ (∀ x ∈ xs, x.size ≤ 30) ∧ xs.length ≤ 20 ∧ Bd us (600 - 30 * (xs.length : Int))
theorem learn_step (l : La) (hl : wideL l) (t : Tm) (xs : List Tm) (us : List Int) (h : InvL l.rules.length (t :: xs) us) :
    (Option.bind ((bif decide (t.rule < 0) then some true else some (decide ((l.rules.length : Int) ≤ t.rule))) : Option Bool) fun v6 => bif v6 then some (.inr (([] : List Int), (1 : Int))) else Option.bind (idx l.rules t.rule) fun v7 => Option.bind (term_Check l v7.symbol t) fun v8 => bif v8 != 0 then some (.inr ([], v8)) else Option.bind (weight_count_h fuel us t) fun v9 => Option.bind (sameL us v9) fun _ => some (.inl v9) : Option (List Int ⊕ (List Int × Int))) = some (learn1 l us t) ∧
    (Option.bind ((bif decide (t.rule < 0) then some true else some (decide ((l.rules.length : Int) ≤ t.rule))) : Option Bool) fun v6 => bif v6 then some (.inr (([] : List Int), (1 : Int))) else Option.bind (idx l.rules t.rule) fun v9 => Option.bind (synthesisref13_Check l v9.symbol t) fun v11 => bif v11 != 0 then some (.inr ([], v11)) else Option.bind (synthesisref13_Rules fuel t) fun v13 => Option.bind (loopN (synthesisref38_Learn_l1 v13) fuel (0, us)) fun v20 => some (.inl v20) : Option (List Int ⊕ (List Int × Int))) = some (learn1 l us t) ∧
    ∀ s', learn1 l us t = .inl s' → InvL l.rules.length xs s' := by
  obtain ⟨hlen, hsz, h20, hbd⟩ := h
  have ht := hsz t (List.mem_cons_self ..)
  have hinv : InvL l.rules.length xs (addR us t.rules) := by
    refine ⟨by rw [addR_len, hlen], fun x hx => hsz x (List.mem_cons_of_mem _ hx), by rw [List.length_cons] at h20; omega, fun u hu => ?_⟩
    rw [List.length_cons] at hbd h20
    have := addR_bd t.rules us _ hbd (by omega) (by rw [Tm.rules_length]; omega) u hu
    rw [Tm.rules_length] at this
    omega
  unfold learn1
  by_cases h0 : t.rule < 0
  · rw [decide_eq_true h0, if_pos (.inl h0)]
    exact ⟨rfl, rfl, fun s' h => by cases h⟩
  by_cases h1 : (l.rules.length : Int) ≤ t.rule
  · rw [decide_eq_false h0, decide_eq_true h1, if_pos (.inr h1)]
    exact ⟨rfl, rfl, fun s' h => by cases h⟩
  have hi : idx l.rules t.rule = some ((l.rules[t.rule.toNat]?).getD zeroR) := by
    unfold idx
    rw [if_pos (by omega), List.getElem?_eq_getElem (by omega)]
    rfl
  obtain ⟨c, c1, c2, c3⟩ := check_both l ((l.rules[t.rule.toNat]?).getD zeroR).symbol t hl (by omega)
  rw [decide_eq_false h0, decide_eq_false h1, if_neg (by omega), c1]
  simp only [cond_false, Option.bind_some, hi, c1, c2, Option.getD_some]
  by_cases hc : c = 0
  · subst hc
    obtain ⟨hg, hd⟩ := c3 rfl
    have hrs := derived_rules fuel l _ t (by omega) (Nat.le_of_lt (lt_fuel (by omega))) (fun x hx hk => by rw [(hg.good x hx).noargs hk]; rfl) hd
    have hrs' : ∀ q ∈ t.rules, 0 ≤ q ∧ q < (us.length : Int) := by rw [hlen]; exact hrs
    rw [count_eq fuel t us (Nat.le_of_lt (lt_fuel (by omega))) (by omega) hrs', rules_ref fuel t (Nat.le_of_lt (lt_fuel (by omega))) (by omega)]
    simp only [Option.bind_some]
    rw [refcount us t.rules (by rw [Tm.rules_length]; omega) hrs']
    have hsame : sameL us (addR us t.rules) = some () := by unfold sameL; rw [if_pos (addR_len _ _).symm]
    rw [hsame]
    refine ⟨rfl, rfl, fun s' h => ?_⟩
    simp only [ne_eq, not_true, if_false] at h
    cases h
    exact hinv
  · rw [show (c != 0) = true by rw [bne_iff_ne]; exact hc, if_pos hc]
    exact ⟨rfl, rfl, fun s' h => by cases h⟩
theorem learn_run (l : La) (hl : wideL l) (xs : List Tm) (us : List Int) (h : InvL l.rules.length xs us) : loopN (weight_Learn_l3 l xs) fuel (0, us) = some (runP (learn1 l) xs us) ∧ loopN (synthesisref38_Learn_l4 l xs) fuel (0, us) = some (runP (learn1 l) xs us) := by
  have h20 := h.2.2.1
  constructor
  · rw [loop_run (step := weight_Learn_l3 l xs) xs (fun us t => (Option.bind ((bif decide (t.rule < 0) then some true else some (decide ((l.rules.length : Int) ≤ t.rule))) : Option Bool) fun v6 => bif v6 then some (.inr (([] : List Int), (1 : Int))) else Option.bind (idx l.rules t.rule) fun v7 => Option.bind (term_Check l v7.symbol t) fun v8 => bif v8 != 0 then some (.inr ([], v8)) else Option.bind (weight_count_h fuel us t) fun v9 => Option.bind (sameL us v9) fun _ => some (.inl v9) : Option (List Int ⊕ (List Int × Int)))) (fun s i => (i, s)) id (by omega) (fun i t s hx => by
      have hi := get_lt hx
      simp only [weight_Learn_l3, lt_len hi, cond_true, idx_nat, hx, Option.bind_some, w64_succ' hi (show xs.length ≤ 9223372036854775807 by omega)]
      cases (bif decide (t.rule < 0) then some true else some (decide ((l.rules.length : Int) ≤ t.rule)) : Option Bool) with
      | none => rfl
      | some b =>
        cases b with
        | true => rfl
        | false =>
          simp only [Option.bind_some, cond_false]
          cases idx l.rules t.rule with
          | none => rfl
          | some r =>
            simp only [Option.bind_some]
            cases term_Check l r.symbol t with
            | none => rfl
            | some c =>
              simp only [Option.bind_some]
              cases c != 0 with
              | true => rfl
              | false =>
                simp only [cond_false]
                cases weight_count_h fuel s t with
                | none => rfl
                | some v => simp only [Option.bind_some]; cases sameL s v <;> rfl) (fun s => by simp only [weight_Learn_l3, lt_len', cond_false]; rfl)]
    rw [runL_eq (InvL l.rules.length) xs us h fun x l' s hs => let ⟨a, _, c⟩ := learn_step l hl x l' s hs; ⟨a, c⟩]
    simp
  · rw [loop_run (step := synthesisref38_Learn_l4 l xs) xs (fun us t => (Option.bind ((bif decide (t.rule < 0) then some true else some (decide ((l.rules.length : Int) ≤ t.rule))) : Option Bool) fun v6 => bif v6 then some (.inr (([] : List Int), (1 : Int))) else Option.bind (idx l.rules t.rule) fun v9 => Option.bind (synthesisref13_Check l v9.symbol t) fun v11 => bif v11 != 0 then some (.inr ([], v11)) else Option.bind (synthesisref13_Rules fuel t) fun v13 => Option.bind (loopN (synthesisref38_Learn_l1 v13) fuel (0, us)) fun v20 => some (.inl v20) : Option (List Int ⊕ (List Int × Int)))) (fun s i => (i, s)) id (by omega) (fun i t s hx => by
      have hi := get_lt hx
      simp only [synthesisref38_Learn_l4, lt_len hi, cond_true, idx_nat, hx, Option.bind_some, w64_succ' hi (show xs.length ≤ 9223372036854775807 by omega)]
      cases (bif decide (t.rule < 0) then some true else some (decide ((l.rules.length : Int) ≤ t.rule)) : Option Bool) with
      | none => rfl
      | some b =>
        cases b with
        | true => rfl
        | false =>
          simp only [Option.bind_some, cond_false]
          cases idx l.rules t.rule with
          | none => rfl
          | some r =>
            simp only [Option.bind_some]
            cases synthesisref13_Check l r.symbol t with
            | none => rfl
            | some c =>
              simp only [Option.bind_some]
              cases c != 0 with
              | true => rfl
              | false =>
                simp only [cond_false]
                cases synthesisref13_Rules fuel t with
                | none => rfl
                | some v => simp only [Option.bind_some]; cases loopN (synthesisref38_Learn_l1 v) fuel (0, s) <;> rfl) (fun s => by simp only [synthesisref38_Learn_l4, lt_len', cond_false]; rfl)]
    rw [runL_eq (InvL l.rules.length) xs us h fun x l' s hs => let ⟨_, b, c⟩ := learn_step l hl x l' s hs; ⟨b, c⟩]
    simp
end Go.Proofs.Ytpcfkflhnkfjjaa
