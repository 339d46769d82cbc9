/- The productive symbols are the least set that the rules close; GrammarProductive. -/
import Derived.Test.YtfhmljjkhjifeaaGreatDoorUb
set_option linter.unusedVariables false
set_option linter.unusedSimpArgs false
set_option maxRecDepth 100000
namespace Go.Proofs.YtfhmljjkhjifeaaGreatDoor
open Go Go.RowKit

theorem rounds_iter (l : La) : ∀ (k : Nat) (s : List Bool), roundsS l k s = iterL (roundS l) k s
  | 0, s => rfl
  | k + 1, s => by rw [roundsS, iterL, rounds_iter l k]
theorem prodS_mono (r : Ru) (s : List Bool) (i : Nat) (h : mk s i = true) : mk (prodS r s) i = true := by
  unfold prodS
  split
  · by_cases hlt : r.symbol.toNat < s.length
    · rw [mk_set hlt]; split
      · rfl
      · exact h
    · rw [List.set_eq_of_length_le (by omega)]; exact h
  · exact h
theorem foldS_mono : ∀ (rs : List Ru) (s : List Bool) (i : Nat), mk s i = true → mk (rs.foldl (fun s r => prodS r s) s) i = true
  | [], s, i, h => h
  | r :: rs, s, i, h => foldS_mono rs _ i (prodS_mono r s i h)
theorem mk_full {s : List Bool} (h : cf s = 0) {i : Nat} (hi : i < s.length) : mk s i = true := by
  unfold cf at h
  rw [List.countP_eq_zero] at h
  have := h _ (List.getElem_mem hi)
  simp [mk, List.getD_eq_getElem?_getD, hi] at this ⊢
  exact this
theorem iter_closed_le {n : Nat} {f : List Bool → List Bool} (hl : ∀ s, (f s).length = s.length) (hm : ∀ s i, mk s i = true → mk (f s) i = true) : ∀ (k : Nat) (s : List Bool), cf s ≤ k → f (iterL f k s) = iterL f k s
  | 0, s, h => by
    show f s = s
    exact mk_ext (hl s) fun i hi => ⟨fun _ => mk_full (by omega) (by rw [← hl s]; exact hi), fun h => hm s i h⟩
  | k + 1, s, h => by
    rw [iterL]
    by_cases he : f s = s
    · rw [he, iter_fix he, he]
    · have := cf_lt (hl s).symm (fun i => hm s i) fun e => he e.symm
      exact iter_closed_le (n := n) hl hm k (f s) (by omega)
theorem prod_fix (l : La) : roundS l (prodL l) = prodL l := by
  unfold prodL
  rw [rounds_iter]
  exact iter_closed_le (n := 0) (roundS_len l) (fun s i h => foldS_mono _ s i h) _ _ (Nat.le_of_eq (cf_rep _))
theorem foldS_fix : ∀ (rs : List Ru) (s : List Bool), rs.foldl (fun s r => prodS r s) s = s → ∀ r ∈ rs, prodS r s = s
  | [], s, _, r, hr => by cases hr
  | r :: rs, s, h, q, hq => by
    rw [List.foldl_cons] at h
    have h1 : prodS r s = s := mk_ext (prodS_len r s) fun i hi => ⟨fun hi2 => by
      have := foldS_mono rs _ i hi2
      rwa [h] at this, fun hi2 => prodS_mono r s i hi2⟩
    rcases List.mem_cons.1 hq with rfl | hq
    · exact h1
    · rw [h1] at h
      exact foldS_fix rs s h q hq
theorem allB_iff {r : Ru} {s : List Bool} : allB r s = true ↔ ∀ a ∈ r.args, mk s a.toNat = true := by
  unfold allB mk
  rw [List.all_eq_true]
theorem prod_closed {l : La} (hg : GoodL l) {r : Ru} (hr : r ∈ l.rules) (h : allB r (prodL l) = true) : mk (prodL l) r.symbol.toNat = true := by
  have h1 := foldS_fix l.rules (prodL l) (prod_fix l) r hr
  unfold prodS at h1
  rw [if_pos h] at h1
  have gr := hg.good r hr
  have h0 := gr.sym0
  have h2 := gr.sym1
  have h3 := mk_set (s := prodL l) (i := r.symbol.toNat) (j := r.symbol.toNat) (by rw [prodL_len]; omega)
  rw [h1, if_pos rfl] at h3
  exact h3
theorem foldS_ind {l : La} {I : Nat → Prop} (h : ∀ r ∈ l.rules, (∀ a ∈ r.args, I a.toNat) → I r.symbol.toNat) : ∀ (rs : List Ru) (s : List Bool), (∀ r ∈ rs, r ∈ l.rules) → (∀ y, mk s y = true → I y) → ∀ y, mk (rs.foldl (fun s r => prodS r s) s) y = true → I y
  | [], s, _, hs => hs
  | r :: rs, s, hm, hs => by
    refine foldS_ind h rs _ (fun q hq => hm q (List.mem_cons_of_mem _ hq)) fun y hy => ?_
    have hy : mk (prodS r s) y = true := hy
    unfold prodS at hy
    split at hy
    · rename_i ha
      by_cases hlt : r.symbol.toNat < s.length
      · rw [mk_set hlt] at hy
        split at hy
        · rename_i he
          subst he
          exact h r (hm r (List.mem_cons_self ..)) fun a haa => hs _ (allB_iff.1 ha a haa)
        · exact hs y hy
      · rw [List.set_eq_of_length_le (by omega)] at hy
        exact hs y hy
    · exact hs y hy
theorem iterS_ind {l : La} {I : Nat → Prop} (h : ∀ r ∈ l.rules, (∀ a ∈ r.args, I a.toNat) → I r.symbol.toNat) : ∀ (k : Nat) (s : List Bool), (∀ y, mk s y = true → I y) → ∀ y, mk (iterL (roundS l) k s) y = true → I y
  | 0, s, hs => hs
  | k + 1, s, hs => iterS_ind h k _ fun y hy => foldS_ind h l.rules s (fun _ h => h) hs y hy
/-- what the rules close holds of all productive symbols -/
theorem prod_ind {l : La} {I : Nat → Prop} (h : ∀ r ∈ l.rules, (∀ a ∈ r.args, I a.toNat) → I r.symbol.toNat) (y : Nat) (hy : mk (prodL l) y = true) : I y := by
  unfold prodL at hy
  rw [rounds_iter] at hy
  exact iterS_ind h _ _ (fun y hy => by rw [mk_rep] at hy; cases hy) y hy
/-- a productive symbol has a rule all arguments of which are productive -/
theorem prod_rule {l : La} (hg : GoodL l) {y : Nat} (hy : mk (prodL l) y = true) : ∃ r ∈ l.rules, r.symbol.toNat = y ∧ allB r (prodL l) = true :=
  (prod_ind (I := fun y => mk (prodL l) y = true ∧ ∃ r ∈ l.rules, r.symbol.toNat = y ∧ allB r (prodL l) = true) (fun r hr ha => by
    have h1 : allB r (prodL l) = true := allB_iff.2 fun a h => (ha a h).1
    exact ⟨prod_closed hg hr h1, r, hr, rfl, h1⟩) y hy).2
theorem prodLaw_l1 {l : La} (hg : GoodL l) {i : Nat} (hi : i < l.rules.length) (b0 b : Bool) : Ev (loopN (synthesislaw11_GrammarProductive_h_l1 l (prodL l) (b, (i : Int))) fuel (b0, 0)) fun r => r = (b0 && allB l.rules[i] (prodL l)) := by
  have gr := hg.good _ (List.getElem_mem hi)
  have hf := gr.few
  refine ev_loop l.rules[i].args.length (fun k s => s.2 = (k : Int) ∧ (s.1 = true ↔ b0 = true ∧ ∀ j (hj : j < l.rules[i].args.length), j < k → mk (prodL l) l.rules[i].args[j].toNat = true)) (by omega) ⟨rfl, by simp⟩ (fun k s hk ⟨e1, e2⟩ => ?_) (fun s ⟨e1, e2⟩ => ?_)
  · obtain ⟨c, n⟩ := s
    simp only at e1 e2
    subst e1
    have hm := List.getElem_mem hk
    have e3 : idx (prodL l) l.rules[i].args[k] = some (mk (prodL l) l.rules[i].args[k].toNat) := idx_getD (gr.args _ hm).1 (by rw [prodL_len]; exact (gr.args _ hm).2)
    cases c with
    | true =>
      refine ev_go (s := (mk (prodL l) l.rules[i].args[k].toNat, ((k + 1 : Nat) : Int))) ?_ ⟨rfl, fun h => ⟨(e2.1 rfl).1, fun j hj hjk => ?_⟩, fun h => h.2 k hk (by omega)⟩
      · simp only [synthesislaw11_GrammarProductive_h_l1, idx_nat, List.getElem?_eq_getElem hi, List.getElem?_eq_getElem hk, Option.bind_some, lt_len hk, cond_true, e3, w64s k (by omega)]
      · by_cases hjk2 : j = k
        · subst hjk2; exact h
        · exact (e2.1 rfl).2 j hj (by omega)
    | false =>
      refine ev_go (s := (false, ((k + 1 : Nat) : Int))) ?_ ⟨rfl, fun h => by simp at h, fun h => ?_⟩
      · simp only [synthesislaw11_GrammarProductive_h_l1, idx_nat, List.getElem?_eq_getElem hi, List.getElem?_eq_getElem hk, Option.bind_some, lt_len hk, cond_true, cond_false, w64s k (by omega)]
      · exact absurd (e2.2 ⟨h.1, fun j hj hjk => h.2 j hj (by omega)⟩) (by simp)
  · obtain ⟨c, n⟩ := s
    simp only at e1 e2
    subst e1
    refine ev_out (b := c) (by simp only [synthesislaw11_GrammarProductive_h_l1, idx_nat, List.getElem?_eq_getElem hi, Option.bind_some, lt_len', cond_false]) ?_
    apply Bool.eq_iff_iff.2
    rw [e2, Bool.and_eq_true, allB_iff]
    refine and_congr Iff.rfl ⟨fun h a ha => ?_, fun h j hj _ => h _ (List.getElem_mem hj)⟩
    obtain ⟨j, hj, rfl⟩ := List.mem_iff_getElem.1 ha
    exact h j hj hj
theorem prodLaw_l2 {l : La} (hg : GoodL l) {s : Nat} : Ev (loopN (synthesislaw11_GrammarProductive_h_l2 l (prodL l) (s : Int)) fuel (false, 0)) fun r => r = true ↔ ∃ q ∈ l.rules, q.symbol = (s : Int) ∧ allB q (prodL l) = true := by
  have h96 := hg.rules
  refine ev_loop l.rules.length (fun k t => t.2 = (k : Int) ∧ (t.1 = true ↔ ∃ j, ∃ (hj : j < l.rules.length), j < k ∧ l.rules[j].symbol = (s : Int) ∧ allB l.rules[j] (prodL l) = true)) (by omega) ⟨rfl, by simp⟩ (fun k t hk ⟨e1, e2⟩ => ?_) (fun t ⟨e1, e2⟩ => ?_)
  · obtain ⟨c, n⟩ := t
    simp only at e1 e2
    subst e1
    obtain ⟨v, hv, hv2⟩ := prodLaw_l1 hg hk (l.rules[k].symbol == (s : Int)) c
    refine ev_go (s := (c || v, ((k + 1 : Nat) : Int))) ?_ ⟨rfl, ?_⟩
    · simp only [synthesislaw11_GrammarProductive_h_l2, idx_nat, List.getElem?_eq_getElem hk, Option.bind_some, lt_len hk, cond_true, hv, w64s k (by omega)]
      cases c <;> rfl
    · simp only [Bool.or_eq_true, e2, hv2, Bool.and_eq_true, beq_iff_eq]
      constructor
      · rintro (⟨j, hj, h1, h2⟩ | h)
        · exact ⟨j, hj, by omega, h2⟩
        · exact ⟨k, hk, by omega, h⟩
      · rintro ⟨j, hj, h1, h2⟩
        by_cases hjk : j = k
        · subst hjk; exact .inr h2
        · exact .inl ⟨j, hj, by omega, h2⟩
  · obtain ⟨c, n⟩ := t
    simp only at e1 e2
    subst e1
    refine ev_out (b := c) (by simp only [synthesislaw11_GrammarProductive_h_l2, lt_len', cond_false]) (e2.trans ⟨?_, ?_⟩)
    · rintro ⟨j, hj, _, h⟩; exact ⟨_, List.getElem_mem hj, h⟩
    · rintro ⟨q, hq, h⟩
      obtain ⟨j, hj, rfl⟩ := List.mem_iff_getElem.1 hq
      exact ⟨j, hj, hj, h⟩
theorem law_GrammarProductive (a0 : La) (h0 : wideL a0) : synthesislaw11_GrammarProductive_h a0 = some true := by
  obtain ⟨b, hb, hb2⟩ := smallL_some h0
  obtain ⟨c, c1, c2, c3⟩ := lang_u a0 h0
  unfold synthesislaw11_GrammarProductive_h
  rw [hb, awake11]
  cases b with
  | false => rfl
  | true =>
    by_cases hc : c = 0
    · subst hc
      have hg := c3 rfl
      have h16 := hg.sym16
      have key : Ev (loopN (synthesislaw11_GrammarProductive_h_l3 a0 (prodL a0)) fuel 0) fun r => r = .inl () := by
        refine ev_loop a0.symbols.length (fun k t => t = (k : Int)) (by omega) rfl (fun k t hk e => ?_) (fun t e => ?_)
        · subst e
          obtain ⟨v, hv, hv2⟩ := prodLaw_l2 hg (s := k)
          have e3 := idx_mk (s := prodL a0) (i := k) (by rw [prodL_len]; exact hk)
          have hiff : v = mk (prodL a0) k := by
            apply Bool.eq_iff_iff.2
            rw [hv2]
            constructor
            · rintro ⟨q, hq, h1, h2⟩
              have := prod_closed hg hq h2
              rwa [h1, Int.toNat_natCast] at this
            · intro h
              obtain ⟨q, hq, h1, h2⟩ := prod_rule hg h
              exact ⟨q, hq, by have := (hg.good q hq).sym0; omega, h2⟩
          refine ev_go (s := ((k + 1 : Nat) : Int)) ?_ rfl
          simp only [synthesislaw11_GrammarProductive_h_l3, prodL_len, lt_len hk, cond_true, hv, Option.bind_some, e3, hiff, w64s k (by omega)]
          cases mk (prodL a0) k <;> rfl
        · subst e
          exact ev_out (b := .inl ()) (by simp only [synthesislaw11_GrammarProductive_h_l3, prodL_len, lt_len', cond_false]) rfl
      have hp : grammar_Productive a0 = some (prodL a0) := by simp only [grammar_Productive, c1, Option.bind_some, bne_self_eq_false, cond_false, (productive_eq hg).1]
      simp only [Bool.not_true, cond_false, Option.bind_some, c2, bne_self_eq_false, hp, prodL_len, key.eq, Sum.elim_inl]
    · have hb : (c != 0) = true := by simp [hc]
      simp only [Bool.not_true, cond_false, Option.bind_some, c2, hb, cond_true]
end Go.Proofs.YtfhmljjkhjifeaaGreatDoor
