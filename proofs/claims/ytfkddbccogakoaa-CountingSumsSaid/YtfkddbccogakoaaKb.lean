/- The law CountingLeast. -/
import Derived.Test.YtfkddbccogakoaaKa
set_option linter.unusedVariables false
set_option linter.unusedSimpArgs false
namespace Go.Proofs.Ytfkddbccogakoaa
open Go Go.RowKit

theorem awake12 : synthesislaw12_alive = some true := by kernel_rfl
theorem small_leaf (l : La) : ∃ b, synthesislaw12_small l (Tm.mk 0 []) = some b ∧ (b = true → l.symbols.length ≤ 12 ∧ l.rules.length ≤ 40) := by
  have hleft : synthesisref12_left fuel (Tm.mk 0 []) 60 = some 59 := by kernel_rfl
  unfold synthesislaw12_small synthesisref12_Small
  by_cases h1 : (l.symbols.length : Int) ≤ 12
  · by_cases h2 : (l.rules.length : Int) ≤ 40
    · rw [decide_eq_true h1, decide_eq_true h2, hleft]
      exact ⟨true, rfl, fun _ => ⟨by omega, by omega⟩⟩
    · rw [decide_eq_true h1, decide_eq_false h2]
      exact ⟨false, rfl, fun h => by cases h⟩
  · rw [decide_eq_false h1]
    exact ⟨false, rfl, fun h => by cases h⟩
def CI (n : Nat) (k : Int) (l : List Int) (s : Int) : Prop := k ≤ s ∧ s + M16 * (l.length : Int) ≤ 1000000000000000000 ∧ ∀ a ∈ l, 0 ≤ a ∧ a < (n : Int)
theorem CI.cons {n : Nat} {k : Int} {a : Int} {l : List Int} {s v : Int} (h : CI n k (a :: l) s) (h0 : 0 ≤ v) (h1 : v ≤ M16) : CI n k l (s + v) ∧ s + v ≤ 1000000000000000000 := by
  obtain ⟨c1, c2, c3⟩ := h
  rw [List.length_cons, Int.natCast_succ, Int.mul_add, Int.mul_one] at c2
  have : 0 ≤ M16 * (l.length : Int) := Int.mul_nonneg (by unfold M16; omega) (by omega)
  exact ⟨⟨by omega, by omega, fun x hx => c3 x (List.mem_cons_of_mem _ hx)⟩, by omega⟩
theorem CI.one {n : Nat} {r : Ru} (hr : RG n r) : CI n 1 r.args 1 := by
  refine ⟨by omega, ?_, hr.args⟩
  have : M16 * (r.args.length : Int) ≤ M16 * 5 := Int.mul_le_mul_of_nonneg_left (by have := hr.few; omega) (by unfold M16; omega)
  unfold M16 at *
  omega
theorem cost_prog {n : Nat} (hn : n ≤ 16) {r : Ru} {o : List Int} (hr : RG n r) (hk : r.kind ≠ 3 → r.args = []) (ho : OkO n o) : counting_cost r o = some (rc o r) := by
  have hargs : counting_args r = some r.args := by
    unfold counting_args
    by_cases h3 : r.kind = 3
    · rw [h3]; rfl
    · rw [show (r.kind != 3) = true by rw [bne_iff_ne]; exact h3, hk h3]; rfl
  have hfew := hr.few
  unfold counting_cost
  rw [hargs]
  simp only [Option.bind_some]
  rw [loop_run (step := counting_cost_l1 o r.args) r.args (fun (s : Int) a => (Option.bind (idx o a) fun v => bif v == 0 then some (.inr 0) else Option.bind (idx o a) fun v5 => some (.inl (w64 (s + v5))) : Option (Int ⊕ Int))) (fun s i => (s, i)) id (by omega) (fun i a s ha => by
    have hi := get_lt ha
    simp only [counting_cost_l1, lt_len hi, cond_true, idx_nat, ha, Option.bind_some, w64_succ' hi (show r.args.length ≤ 9223372036854775807 by omega)]
    cases idx o a with
    | none => rfl
    | some v => simp only [Option.bind_some]; cases v == 0 <;> rfl) (fun s => by simp only [counting_cost_l1, lt_len', cond_false]; rfl)]
  rw [runL_eq (F := fun (s : Int) a => if at0 o a = 0 then .inr 0 else .inl (s + at0 o a)) (CI n 1) r.args 1 (CI.one hr) fun a l s hs => by
    have h1 := hs.2.2 a (List.mem_cons_self ..)
    have e := at0_idx (o := o) h1.1 (by rw [ho.len]; exact h1.2)
    have hb := ho.bd16 hn _ (at0_mem h1.1 (by rw [ho.len]; exact h1.2))
    obtain ⟨c1, c2⟩ := hs.cons hb.1 hb.2
    have hge := hs.1
    simp only [e, Option.bind_some]
    by_cases hz : at0 o a = 0
    · rw [hz]
      exact ⟨rfl, fun s' h => by cases h⟩
    · rw [show (at0 o a == 0) = false by rw [beq_eq_false_iff_ne]; exact hz, if_neg hz, w64_eq (by omega) (by omega)]
      exact ⟨rfl, fun s' h => by cases h; exact c1⟩]
  have key : ∀ (ys : List Int) (s : Int), (Sum.elim some some (runP (fun (s : Int) a => if at0 o a = 0 then (.inr 0 : Int ⊕ Int) else .inl (s + at0 o a)) ys s) : Option Int) = some (costF o ys s) := fun ys => by
    induction ys with
    | nil => intro s; rfl
    | cons a ys ih =>
      intro s
      rw [runP]
      unfold costF
      by_cases hz : at0 o a = 0
      · rw [if_pos hz, if_pos hz]; rfl
      · rw [if_neg hz, if_neg hz]; exact ih _
  exact key r.args 1
theorem imp_b (o : List Int) (r : Ru) {n : Nat} (ho : OkO n o) (hr : RG n r) : ((bif decide (0 < rc o r) then Option.bind (idx o r.symbol) fun v7 => bif v7 == 0 then some true else Option.bind (idx o r.symbol) fun v8 => some (decide (rc o r < v8)) else some false) : Option Bool) = some (imp o r) ∧ idx o r.symbol = some (at0 o r.symbol) := by
  have e := at0_idx (o := o) hr.s0 (by rw [ho.len]; exact hr.s1)
  refine ⟨?_, e⟩
  rw [e]
  unfold imp
  cases decide (0 < rc o r) with
  | false => rfl
  | true =>
    simp only [cond_true, Option.bind_some, Bool.true_and]
    cases at0 o r.symbol == 0 <;> rfl
theorem stpC_ok {n : Nat} {s : Bool × List Int} {r : Ru} (h : OkO n s.2) (hr : RG n r) : OkO n (stpC s r).2 := by
  unfold stpC
  split
  · rename_i hi; exact h.step hr hi
  · exact h
theorem stpR_ok {n : Nat} {o : List Int} {r : Ru} (h : OkO n o) (hr : RG n r) : OkO n (stpR o r) := by
  unfold stpR
  split
  · rename_i hi; exact h.step hr hi
  · exact h
def PI (n : Nat) (l : List Ru) (s : Bool × List Int) : Prop := OkO n s.2 ∧ ∀ r ∈ l, RG n r ∧ (r.kind ≠ 3 → r.args = [])
theorem round_prog (l : La) {n : Nat} (hn : n ≤ 16) (h96 : l.rules.length ≤ 96) (hr : ∀ r ∈ l.rules, RG n r ∧ (r.kind ≠ 3 → r.args = [])) {o : List Int} (ho : OkO n o) : loopN (counting_Least_l1 l) fuel (false, 0, o) = some (l.rules.foldl stpC (false, o)) := by
  rw [loop_acc (step := counting_Least_l1 l) l.rules (fun (s : Bool × List Int) r => (Option.bind (counting_cost r s.2) fun v6 => Option.bind ((bif decide (0 < v6) then Option.bind (idx s.2 r.symbol) fun v7 => bif v7 == 0 then some true else Option.bind (idx s.2 r.symbol) fun v8 => some (decide (v6 < v8)) else some false) : Option Bool) fun v10 => bif v10 then Option.bind (idx s.2 r.symbol) fun v11 => some (true, List.set s.2 r.symbol.toNat v6) else some (s.1, s.2) : Option (Bool × List Int))) (fun i s => (s.1, i, s.2)) (by omega) (fun i r s hx => by
    have hi := get_lt hx
    simp only [counting_Least_l1, lt_len hi, cond_true, idx_nat, hx, Option.bind_some, w64_succ' hi (show l.rules.length ≤ 9223372036854775807 by omega)]
    cases counting_cost r s.2 with
    | none => rfl
    | some v =>
      simp only [Option.bind_some]
      cases ((bif decide (0 < v) then Option.bind (idx s.2 r.symbol) fun v7 => bif v7 == 0 then some true else Option.bind (idx s.2 r.symbol) fun v8 => some (decide (v < v8)) else some false) : Option Bool) with
      | none => rfl
      | some b =>
        simp only [Option.bind_some]
        cases b with
        | false => rfl
        | true => simp only [cond_true]; cases idx s.2 r.symbol <;> rfl) (fun s => by simp only [counting_Least_l1, lt_len', cond_false]) (false, o)]
  rw [fold_pure (g := stpC) (PI n) l.rules (false, o) ⟨ho, hr⟩ fun r ys s hs => by
    obtain ⟨h1, h2⟩ := hs
    obtain ⟨g1, g2⟩ := h2 r (List.mem_cons_self ..)
    obtain ⟨b1, b2⟩ := imp_b s.2 r h1 g1
    rw [cost_prog hn g1 g2 h1]
    simp only [Option.bind_some]
    rw [b1, b2]
    simp only [Option.bind_some]
    refine ⟨?_, stpC_ok h1 g1, fun q hq => h2 q (List.mem_cons_of_mem _ hq)⟩
    unfold stpC
    cases imp s.2 r <;> rfl]
theorem good_rg {l : La} (hg : GoodL l) : ∀ r ∈ l.rules, RG l.symbols.length r ∧ (r.kind ≠ 3 → r.args = []) := fun r hr =>
  let g := hg.good r hr
  ⟨⟨g.sym0, g.sym1, g.args, g.few⟩, g.noargs⟩
end Go.Proofs.Ytfkddbccogakoaa
