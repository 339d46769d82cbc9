/- The law CountingLeast. -/
import Derived.Test.YtfkddbccogakoaaKa
set_option linter.unusedVariables false
set_option linter.unusedSimpArgs false
namespace Go.Proofs.Ytfkddbccogakoaa
open Go Go.RowKit

theorem awake12 : synthesislaw12_alive = some true := by kernel_rfl
theorem small_leaf (l : La) : ∃ b, synthesislaw12_small l (Tm.mk 0 []) = some b ∧ (b = true → l.symbols.length ≤ 12 ∧ l.rules.length ≤ 40) := by
  have hleft : synthesisref12_left fuel (Tm.mk 0 []) 60 = some 59 := by kernel_rfl
  unfold synthesislaw12_small synthesisref12_Small
  by_cases h1 : (l.symbols.length : Int) ≤ 12
  · by_cases h2 : (l.rules.length : Int) ≤ 40
    · rw [decide_eq_true h1, decide_eq_true h2, hleft]
      exact ⟨true, rfl, fun _ => ⟨by omega, by omega⟩⟩
    · rw [decide_eq_true h1, decide_eq_false h2]
      exact ⟨false, rfl, fun h => by cases h⟩
  · rw [decide_eq_false h1]
    exact ⟨false, rfl, fun h => by cases h⟩
def CI (n : Nat) (k : Int) (l : List Int) (s : Int) : Prop := k ≤ s ∧ s + M16 * (l.length : Int) ≤ 1000000000000000000 ∧ ∀ a ∈ l, 0 ≤ a ∧ a < (n : Int)
theorem CI.cons {n : Nat} {k : Int} {a : Int} {l : List Int} {s v : Int} (h : CI n k (a :: l) s) (h0 : 0 ≤ v) (h1 : v ≤ M16) : CI n k l (s + v) ∧ s + v ≤ 1000000000000000000 := by
  obtain ⟨c1, c2, c3⟩ := h
  rw [List.length_cons, Int.natCast_succ, Int.mul_add, Int.mul_one] at c2
  have : 0 ≤ M16 * (l.length : Int) := Int.mul_nonneg (by unfold M16; omega) (by omega)
  exact ⟨⟨by omega, by omega, fun x hx => c3 x (List.mem_cons_of_mem _ hx)⟩, by omega⟩
theorem CI.cons0 {n : Nat} {k : Int} {a : Int} {l : List Int} {s : Int} (h : CI n k (a :: l) s) : CI n k l s := by
  obtain ⟨c1, c2, c3⟩ := h
  rw [List.length_cons, Int.natCast_succ, Int.mul_add, Int.mul_one] at c2
  have : 0 ≤ M16 := by unfold M16; omega
  exact ⟨c1, by omega, fun x hx => c3 x (List.mem_cons_of_mem _ hx)⟩
theorem CI.one {n : Nat} {r : Ru} (hr : RG n r) : CI n 1 r.args 1 := by
  refine ⟨by omega, ?_, hr.args⟩
  have : M16 * (r.args.length : Int) ≤ M16 * 5 := Int.mul_le_mul_of_nonneg_left (by have := hr.few; omega) (by unfold M16; omega)
  unfold M16 at *
  omega
theorem cost_prog {n : Nat} (hn : n ≤ 16) {r : Ru} {o : List Int} (hr : RG n r) (hk : r.kind ≠ 3 → r.args = []) (ho : OkO n o) : counting_cost r o = some (rc o r) := by
  have hargs : counting_args r = some r.args := by
    unfold counting_args
    by_cases h3 : r.kind = 3
    · rw [h3]; rfl
    · rw [show (r.kind != 3) = true by rw [bne_iff_ne]; exact h3, hk h3]; rfl
  have hfew := hr.few
  unfold counting_cost
  rw [hargs]
  simp only [Option.bind_some]
  rw [loop_run (step := counting_cost_l1 o r.args) r.args (fun (s : Int) a => (Option.bind (idx o a) fun v => bif v == 0 then some (.inr 0) else Option.bind (idx o a) fun v5 => some (.inl (w64 (s + v5))) : Option (Int ⊕ Int))) (fun s i => (s, i)) id (by omega) (fun i a s ha => by
    have hi := get_lt ha
    simp only [counting_cost_l1, lt_len hi, cond_true, idx_nat, ha, Option.bind_some, w64_succ' hi (show r.args.length ≤ 9223372036854775807 by omega)]
    cases idx o a with
    | none => rfl
    | some v => simp only [Option.bind_some]; cases v == 0 <;> rfl) (fun s => by simp only [counting_cost_l1, lt_len', cond_false]; rfl)]
  rw [runL_eq (F := fun (s : Int) a => if at0 o a = 0 then .inr 0 else .inl (s + at0 o a)) (CI n 1) r.args 1 (CI.one hr) fun a l s hs => by
    have h1 := hs.2.2 a (List.mem_cons_self ..)
    have e := at0_idx (o := o) h1.1 (by rw [ho.len]; exact h1.2)
    have hb := ho.bd16 hn _ (at0_mem h1.1 (by rw [ho.len]; exact h1.2))
    obtain ⟨c1, c2⟩ := hs.cons hb.1 hb.2
    have hge := hs.1
    simp only [e, Option.bind_some]
    by_cases hz : at0 o a = 0
    · rw [hz]
      exact ⟨rfl, fun s' h => by cases h⟩
    · rw [show (at0 o a == 0) = false by rw [beq_eq_false_iff_ne]; exact hz, if_neg hz, w64_eq (by omega) (by omega)]
      exact ⟨rfl, fun s' h => by cases h; exact c1⟩]
  have key : ∀ (ys : List Int) (s : Int), (Sum.elim some some (runP (fun (s : Int) a => if at0 o a = 0 then (.inr 0 : Int ⊕ Int) else .inl (s + at0 o a)) ys s) : Option Int) = some (costF o ys s) := fun ys => by
    induction ys with
    | nil => intro s; rfl
    | cons a ys ih =>
      intro s
      rw [runP]
      unfold costF
      by_cases hz : at0 o a = 0
      · rw [if_pos hz, if_pos hz]; rfl
      · rw [if_neg hz, if_neg hz]; exact ih _
  exact key r.args 1
def stepG (o : List Int) (s a : Int) : Int := if at0 o a = 0 then 0 else if 0 < s then s + at0 o a else s
theorem cost_refl {n : Nat} (hn : n ≤ 16) {r : Ru} {o : List Int} {k : Int} (hr : RG n r) (ho : OkO n o) : loopN (synthesisref12_Least_l1 (k, o) r) fuel (1, 0) = some (rc o r) := by
  have hfew := hr.few
  rw [loop_acc (step := synthesisref12_Least_l1 (k, o) r) r.args (fun (s a : Int) => (Option.bind ((Option.bind (idx o a) fun v8 => bif v8 == 0 then some 0 else some s) : Option Int) fun v10 => bif decide (0 < v10) then Option.bind (idx o a) fun v11 => some (w64 (v10 + v11)) else some v10 : Option Int)) (fun i s => (s, i)) (by omega) (fun i a s ha => by
    have hi := get_lt ha
    simp only [synthesisref12_Least_l1, lt_len hi, cond_true, idx_nat, ha, Option.bind_some, w64_succ' hi (show r.args.length ≤ 9223372036854775807 by omega)]
    cases idx o a with
    | none => rfl
    | some v =>
      simp only [Option.bind_some]
      cases v == 0 with
      | true => rfl
      | false => simp only [cond_false, Option.bind_some]; cases decide (0 < s) <;> rfl) (fun s => by simp only [synthesisref12_Least_l1, lt_len', cond_false])]
  rw [fold_pure (g := stepG o) (CI n 0) r.args 1 ⟨by omega, (CI.one hr).2⟩ fun a l s hs => by
    have h1 := hs.2.2 a (List.mem_cons_self ..)
    have e := at0_idx (o := o) h1.1 (by rw [ho.len]; exact h1.2)
    have hb := ho.bd16 hn _ (at0_mem h1.1 (by rw [ho.len]; exact h1.2))
    obtain ⟨c1, c2⟩ := hs.cons hb.1 hb.2
    have hge := hs.1
    unfold stepG
    simp only [e, Option.bind_some]
    by_cases hz : at0 o a = 0
    · rw [hz]
      refine ⟨rfl, Int.le_refl _, ?_, hs.cons0.2.2⟩
      have := hs.cons0.2.1
      omega
    · rw [show (at0 o a == 0) = false by rw [beq_eq_false_iff_ne]; exact hz, if_neg hz]
      simp only [cond_false, Option.bind_some]
      by_cases hp : 0 < s
      · rw [decide_eq_true hp, if_pos hp, w64_eq (by omega) (by omega)]
        exact ⟨rfl, c1⟩
      · rw [decide_eq_false hp, if_neg hp]
        exact ⟨rfl, hs.cons0⟩]
  have key : ∀ (ys : List Int) (s : Int), (∀ a ∈ ys, 0 ≤ at0 o a) → ys.foldl (stepG o) s = if 0 < s then costF o ys s else if ys = [] then s else (if s = 0 then 0 else ys.foldl (stepG o) s) := fun ys => by
    induction ys with
    | nil => intro s _; simp [costF]
    | cons a ys ih =>
      intro s ha
      have h0 := ha a (List.mem_cons_self ..)
      have hys : ∀ a ∈ ys, 0 ≤ at0 o a := fun x hx => ha x (List.mem_cons_of_mem _ hx)
      have hzero : ys.foldl (stepG o) 0 = 0 := by
        rw [ih 0 hys, if_neg (by omega)]
        split <;> simp
      by_cases hs : 0 < s
      · rw [if_pos hs, List.foldl_cons]
        unfold costF
        by_cases hz : at0 o a = 0
        · rw [if_pos hz, show stepG o s a = 0 by unfold stepG; rw [if_pos hz]]
          exact hzero
        · rw [if_neg hz, show stepG o s a = s + at0 o a by unfold stepG; rw [if_neg hz, if_pos hs], ih _ hys, if_pos (by omega)]
      · rw [if_neg hs, if_neg (by simp)]
        by_cases hz : s = 0
        · rw [if_pos hz, hz, List.foldl_cons, show stepG o 0 a = 0 by unfold stepG; split <;> simp]
          exact hzero
        · rw [if_neg hz]
  rw [key r.args 1 fun a ha => ho.nn (hr.args a ha).1 (hr.args a ha).2, if_pos (by omega)]
  rfl
theorem imp_b (o : List Int) (r : Ru) {n : Nat} (ho : OkO n o) (hr : RG n r) : ((bif decide (0 < rc o r) then Option.bind (idx o r.symbol) fun v7 => bif v7 == 0 then some true else Option.bind (idx o r.symbol) fun v8 => some (decide (rc o r < v8)) else some false) : Option Bool) = some (imp o r) ∧ idx o r.symbol = some (at0 o r.symbol) := by
  have e := at0_idx (o := o) hr.s0 (by rw [ho.len]; exact hr.s1)
  refine ⟨?_, e⟩
  rw [e]
  unfold imp
  cases decide (0 < rc o r) with
  | false => rfl
  | true =>
    simp only [cond_true, Option.bind_some, Bool.true_and]
    cases at0 o r.symbol == 0 <;> rfl
theorem stpC_ok {n : Nat} {s : Bool × List Int} {r : Ru} (h : OkO n s.2) (hr : RG n r) : OkO n (stpC s r).2 := by
  unfold stpC
  split
  · rename_i hi; exact h.step hr hi
  · exact h
theorem stpR_ok {n : Nat} {o : List Int} {r : Ru} (h : OkO n o) (hr : RG n r) : OkO n (stpR o r) := by
  unfold stpR
  split
  · rename_i hi; exact h.step hr hi
  · exact h
def PI (n : Nat) (l : List Ru) (s : Bool × List Int) : Prop := OkO n s.2 ∧ ∀ r ∈ l, RG n r ∧ (r.kind ≠ 3 → r.args = [])
theorem round_prog (l : La) {n : Nat} (hn : n ≤ 16) (h96 : l.rules.length ≤ 96) (hr : ∀ r ∈ l.rules, RG n r ∧ (r.kind ≠ 3 → r.args = [])) {o : List Int} (ho : OkO n o) : loopN (counting_Least_l1 l) fuel (false, 0, o) = some (l.rules.foldl stpC (false, o)) := by
  rw [loop_acc (step := counting_Least_l1 l) l.rules (fun (s : Bool × List Int) r => (Option.bind (counting_cost r s.2) fun v6 => Option.bind ((bif decide (0 < v6) then Option.bind (idx s.2 r.symbol) fun v7 => bif v7 == 0 then some true else Option.bind (idx s.2 r.symbol) fun v8 => some (decide (v6 < v8)) else some false) : Option Bool) fun v10 => bif v10 then Option.bind (idx s.2 r.symbol) fun v11 => some (true, List.set s.2 r.symbol.toNat v6) else some (s.1, s.2) : Option (Bool × List Int))) (fun i s => (s.1, i, s.2)) (by omega) (fun i r s hx => by
    have hi := get_lt hx
    simp only [counting_Least_l1, lt_len hi, cond_true, idx_nat, hx, Option.bind_some, w64_succ' hi (show l.rules.length ≤ 9223372036854775807 by omega)]
    cases counting_cost r s.2 with
    | none => rfl
    | some v =>
      simp only [Option.bind_some]
      cases ((bif decide (0 < v) then Option.bind (idx s.2 r.symbol) fun v7 => bif v7 == 0 then some true else Option.bind (idx s.2 r.symbol) fun v8 => some (decide (v < v8)) else some false) : Option Bool) with
      | none => rfl
      | some b =>
        simp only [Option.bind_some]
        cases b with
        | false => rfl
        | true => simp only [cond_true]; cases idx s.2 r.symbol <;> rfl) (fun s => by simp only [counting_Least_l1, lt_len', cond_false]) (false, o)]
  rw [fold_pure (g := stpC) (PI n) l.rules (false, o) ⟨ho, hr⟩ fun r ys s hs => by
    obtain ⟨h1, h2⟩ := hs
    obtain ⟨g1, g2⟩ := h2 r (List.mem_cons_self ..)
    obtain ⟨b1, b2⟩ := imp_b s.2 r h1 g1
    rw [cost_prog hn g1 g2 h1]
    simp only [Option.bind_some]
    rw [b1, b2]
    simp only [Option.bind_some]
    refine ⟨?_, stpC_ok h1 g1, fun q hq => h2 q (List.mem_cons_of_mem _ hq)⟩
    unfold stpC
    cases imp s.2 r <;> rfl]
theorem round_ref (l : La) {n : Nat} (hn : n ≤ 16) (h96 : l.rules.length ≤ 96) (hr : ∀ r ∈ l.rules, RG n r ∧ (r.kind ≠ 3 → r.args = [])) {o : List Int} (ho : OkO n o) : loopN (synthesisref12_Least_l2 l) fuel (0, o) = some (l.rules.foldl stpR o) := by
  rw [loop_acc (step := synthesisref12_Least_l2 l) l.rules (fun (s : List Int) r => (Option.bind (loopN (synthesisref12_Least_l1 ((0 : Int), s) r) fuel (1, 0)) fun v15 => Option.bind ((bif decide (0 < v15) then Option.bind (idx s r.symbol) fun v7 => bif v7 == 0 then some true else Option.bind (idx s r.symbol) fun v8 => some (decide (v15 < v8)) else some false) : Option Bool) fun v10 => bif v10 then Option.bind (idx s r.symbol) fun v11 => some (List.set s r.symbol.toNat v15) else some s : Option (List Int))) (fun i s => (i, s)) (by omega) (fun i r s hx => by
    have hi := get_lt hx
    have hl1 : synthesisref12_Least_l1 ((i : Int), s) r = synthesisref12_Least_l1 ((0 : Int), s) r := rfl
    simp only [synthesisref12_Least_l2, lt_len hi, cond_true, idx_nat, hx, Option.bind_some, w64_succ' hi (show l.rules.length ≤ 9223372036854775807 by omega), hl1]
    cases loopN (synthesisref12_Least_l1 ((0 : Int), s) r) fuel (1, 0) with
    | none => rfl
    | some v =>
      simp only [Option.bind_some]
      cases ((bif decide (0 < v) then Option.bind (idx s r.symbol) fun v7 => bif v7 == 0 then some true else Option.bind (idx s r.symbol) fun v8 => some (decide (v < v8)) else some false) : Option Bool) with
      | none => rfl
      | some b =>
        simp only [Option.bind_some]
        cases b with
        | false => rfl
        | true => simp only [cond_true]; cases idx s r.symbol <;> rfl) (fun s => by simp only [synthesisref12_Least_l2, lt_len', cond_false]) o]
  rw [fold_pure (g := stpR) (fun l s => PI n l (false, s)) l.rules o ⟨ho, hr⟩ fun r ys s hs => by
    obtain ⟨h1, h2⟩ := hs
    obtain ⟨g1, g2⟩ := h2 r (List.mem_cons_self ..)
    obtain ⟨b1, b2⟩ := imp_b s r h1 g1
    rw [cost_refl hn g1 h1]
    simp only [Option.bind_some]
    rw [b1, b2]
    simp only [Option.bind_some]
    refine ⟨?_, stpR_ok h1 g1, fun q hq => h2 q (List.mem_cons_of_mem _ hq)⟩
    unfold stpR
    cases imp s r <;> rfl]
theorem fold_ok {n : Nat} : ∀ (rs : List Ru) (o : List Int), OkO n o → (∀ r ∈ rs, RG n r) → OkO n (rs.foldl stpR o)
  | [], o, h, _ => h
  | r :: rs, o, h, hr => fold_ok rs _ (stpR_ok h (hr r (List.mem_cons_self ..))) fun q hq => hr q (List.mem_cons_of_mem _ hq)
theorem good_rg {l : La} (hg : GoodL l) : ∀ r ∈ l.rules, RG l.symbols.length r ∧ (r.kind ≠ 3 → r.args = []) := fun r hr =>
  let g := hg.good r hr
  ⟨⟨g.sym0, g.sym1, g.args, g.few⟩, g.noargs⟩
theorem least_both (l : La) (hl : wideL l) : ∃ o, counting_Least l = some o ∧ synthesisref12_Least l = some o ∧ o.1.length ≤ 16 := by
  obtain ⟨c, c1, c2, c3⟩ := lang_u l hl
  unfold counting_Least synthesisref12_Least
  rw [c1, c2]
  simp only [Option.bind_some]
  by_cases hc : c = 0
  · subst hc
    have hg := c3 rfl
    have h96 := hg.rules
    have h16 := hg.sym16
    have hr := good_rg hg
    have hrg : ∀ r ∈ l.rules, RG l.symbols.length r := fun r h => (hr r h).1
    rw [bne_self_eq_false]
    simp only [cond_false, mkL_eq 8 (0 : Int) l.symbols.length (by omega), Option.bind_some]
    have p := conv hrg (counting_Least_l2 l) (fun o ho => by
      simp only [counting_Least_l2, cond_true, round_prog l h16 h96 hr ho, Option.bind_some]) (fun o => by simp only [counting_Least_l2, cond_false]) l.symbols.length (List.replicate l.symbols.length 0) 0 (fuel - l.symbols.length - 2) (Int.le_refl _) (zero_okO _) (fun r _ h => zero_imp (n := 0) _ h) (by omega)
    rw [show fuel - l.symbols.length - 2 + l.symbols.length + 2 = fuel by unfold fuel; omega] at p
    have q : loopN (synthesisref12_Least_l3 l) fuel (0, List.replicate l.symbols.length 0) = some (it (fun o => l.rules.foldl stpR o) l.symbols.length (List.replicate l.symbols.length 0)) := by
      rw [loop_acc (step := synthesisref12_Least_l3 l) l.symbols (fun (s : List Int) _ => loopN (synthesisref12_Least_l2 l) fuel (0, s)) (fun i s => (i, s)) (by omega) (fun i r s hx => by
        have hi := get_lt hx
        simp only [synthesisref12_Least_l3, lt_len hi, cond_true, w64_succ' hi (show l.symbols.length ≤ 9223372036854775807 by omega)]
        cases loopN (synthesisref12_Least_l2 l) fuel (0, s) <;> rfl) (fun s => by simp only [synthesisref12_Least_l3, lt_len', cond_false])]
      rw [fold_pure (g := fun s _ => l.rules.foldl stpR s) (fun _ s => OkO l.symbols.length s) l.symbols _ (zero_okO _) fun r ys s hs => ⟨round_ref l h16 h96 hr hs, fold_ok _ _ hs hrg⟩]
      congr 1
      have gen : ∀ (ys : List Sy) (s : List Int), ys.foldl (fun s _ => l.rules.foldl stpR s) s = it (fun o => l.rules.foldl stpR o) ys.length s := fun ys => by
        induction ys with
        | nil => intro s; rfl
        | cons y ys ih => intro s; rw [List.foldl_cons, ih]; rfl
      exact gen _ _
    have itok : ∀ (k : Nat) (o : List Int), OkO l.symbols.length o → OkO l.symbols.length (it (fun o => l.rules.foldl stpR o) k o) := fun k => by
      induction k with
      | zero => intro o h; exact h
      | succ k ih => intro o h; exact ih _ (fold_ok _ _ h hrg)
    rw [p, q]
    refine ⟨_, rfl, rfl, ?_⟩
    have := (itok l.symbols.length _ (zero_okO _)).len
    show (it (fun o => l.rules.foldl stpR o) l.symbols.length (List.replicate l.symbols.length 0)).length ≤ 16
    omega
  · rw [show (c != 0) = true by rw [bne_iff_ne]; exact hc]
    exact ⟨([], c), rfl, rfl, by simp⟩
theorem law_CountingLeast (l : La) (hl : wideL l) : synthesislaw12_CountingLeast l = some true := by
  obtain ⟨b, b1, b2⟩ := small_leaf l
  unfold synthesislaw12_CountingLeast
  rw [b1, awake12]
  simp only [Option.bind_some]
  cases b with
  | false => rfl
  | true =>
    obtain ⟨o, o1, o2, o3⟩ := least_both l hl
    rw [o1, o2]
    simp only [Bool.not_true, cond_false, Option.bind_some, bne_self_eq_false]
    rcases loop_find (step := synthesislaw12_CountingLeast_l1 o o) o.1.length (by omega) (fun _ => false) (fun _ => .inr false) (.inl ()) (fun i hi => by
      have e1 : o.1[i]? = some o.1[i] := List.getElem?_eq_getElem hi
      simp only [synthesislaw12_CountingLeast_l1, lt_len hi, cond_true, idx_nat, e1, Option.bind_some, bne_self_eq_false, cond_false, w64_succ' hi (show o.1.length ≤ 9223372036854775807 by omega), Bool.false_eq_true, if_false]) (by simp only [synthesislaw12_CountingLeast_l1, lt_len', cond_false]) with ⟨_, _, h, _⟩ | ⟨_, h⟩
    · cases h
    · rw [h]; rfl
end Go.Proofs.Ytfkddbccogakoaa
