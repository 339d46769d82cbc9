/- Terms out of their rules, by both texts; the reference's order of a term and itself; the law TermBuilds. -/
import Derived.Test.YtaeicmnimjfbaaaGe
set_option linter.unusedVariables false
set_option linter.unusedSimpArgs false
namespace Go.Proofs.Ytaeicmnimjfbaaa
open Go Go.RowKit

/-- two loops over as many places, with states of which something is known -/
theorem loop_inv2 {σ β σ' β' : Type} {step : σ → Option (σ ⊕ β)} {step' : σ' → Option (σ' ⊕ β')} (n : Nat) (hn : n < 18446744073709551616) (Inv : Nat → σ → σ' → Prop) (Q : β → β' → Prop)
    (hs : ∀ i a a', i < n → Inv i a a' → (∃ b b', step a = some (.inl b) ∧ step' a' = some (.inl b') ∧ Inv (i + 1) b b') ∨ ∃ b b', step a = some (.inr b) ∧ step' a' = some (.inr b') ∧ Q b b')
    (he : ∀ a a', Inv n a a' → ∃ b b', step a = some (.inr b) ∧ step' a' = some (.inr b') ∧ Q b b') (a : σ) (a' : σ') (h0 : Inv 0 a a') : ∃ r r', loopN step fuel a = some r ∧ loopN step' fuel a' = some r' ∧ Q r r' := by
  have key : ∀ (k i : Nat) (a : σ) (a' : σ'), i ≤ n → n - i < k → Inv i a a' → ∃ r r', loopN step k a = some r ∧ loopN step' k a' = some r' ∧ Q r r' := by
    intro k
    induction k with
    | zero => intro i a a' _ h _; omega
    | succ k ih =>
      intro i a a' hi hk ha
      rw [loopN, loopN]
      by_cases h : i = n
      · subst h
        obtain ⟨b, b', h1, h2, h3⟩ := he a a' ha
        rw [h1, h2]; exact ⟨b, b', rfl, rfl, h3⟩
      · rcases hs i a a' (by omega) ha with ⟨b, b', h1, h2, h3⟩ | ⟨b, b', h1, h2, h3⟩
        · rw [h1, h2]; exact ih (i + 1) b b' (by omega) (by omega) h3
        · rw [h1, h2]; exact ⟨b, b', rfl, rfl, h3⟩
  exact key fuel 0 a a' (Nat.zero_le _) (lt_fuel (by omega)) h0

/-! the reference's order of a term and itself -/
theorem rsize_eq : ∀ (n : Nat) (t : Tm), t.size ≤ 1000 → t.size ≤ n → synthesisref13_Size n t = some (t.size : Int)
  | 0, t, _, h => by have := Tm.size_pos t; omega
  | n + 1, t, ht, hn => by
    show synthesisref13_Size_b (synthesisref13_Size n) t = _
    obtain ⟨r0, l⟩ := t
    have hsz : (Tm.mk r0 l).size = Tm.sizeL l + 1 := rfl
    have hlen := len_le_sizeL l
    have hl := loop_end (step := synthesisref13_Size_l1 (Tm.mk r0 l) (synthesisref13_Size n)) l.length (by omega) (fun i => (((1 + Tm.sizeL (l.take i) : Nat) : Int), (i : Int))) ((1 + Tm.sizeL l : Nat) : Int) (fun i hi => by
      have e1 : (Tm.mk r0 l).args[i]? = some l[i] := List.getElem?_eq_getElem hi
      have b1 : decide ((i : Int) < ((Tm.mk r0 l).args.length : Int)) = true := decide_eq_true (by show (i : Int) < (l.length : Int); omega)
      have hs := Tm.sizeL_mem (List.getElem_mem hi)
      have hle := sizeL_take_le l i (by omega)
      have q := rsize_eq n l[i] (by omega) (by omega)
      have hstep : w64 (((1 + Tm.sizeL (l.take i) : Nat) : Int) + (l[i].size : Int)) = ((1 + Tm.sizeL (l.take (i + 1)) : Nat) : Int) := by
        rw [sizeL_take hi, w64_eq (by omega) (by omega)]; omega
      simp only [synthesisref13_Size_l1, b1, cond_true, idx_nat, e1, Option.bind_some, q, hstep, w64_succ (n := i) (by omega)]) (by
      have b1 : decide ((l.length : Int) < ((Tm.mk r0 l).args.length : Int)) = false := decide_eq_false (by show ¬ (l.length : Int) < (l.length : Int); omega)
      simp only [synthesisref13_Size_l1, b1, cond_false, List.take_length])
    have hl' : loopN (synthesisref13_Size_l1 (Tm.mk r0 l) (synthesisref13_Size n)) fuel (1, 0) = some ((1 + Tm.sizeL l : Nat) : Int) := by simpa [Tm.sizeL] using hl
    unfold synthesisref13_Size_b
    rw [hl', Option.bind_some, hsz, Nat.add_comm]
theorem rrules_eq : ∀ (n : Nat) (t : Tm), t.size ≤ 1000 → t.size ≤ n → synthesisref13_Rules n t = some t.rules
  | 0, t, _, h => by have := Tm.size_pos t; omega
  | n + 1, t, ht, hn => by
    show synthesisref13_Rules_b (synthesisref13_Rules n) t = _
    obtain ⟨r0, l⟩ := t
    have hsz : (Tm.mk r0 l).size = Tm.sizeL l + 1 := rfl
    have hlen := len_le_sizeL l
    have hl := loop_end (step := synthesisref13_Rules_l1 (Tm.mk r0 l) (synthesisref13_Rules n)) l.length (by omega) (fun i => ((i : Int), [r0] ++ Tm.preL Tm.rule (l.take i))) ([r0] ++ Tm.preL Tm.rule l) (fun i hi => by
      have e1 : (Tm.mk r0 l).args[i]? = some l[i] := List.getElem?_eq_getElem hi
      have b1 : decide ((i : Int) < ((Tm.mk r0 l).args.length : Int)) = true := decide_eq_true (by show (i : Int) < (l.length : Int); omega)
      have hs := Tm.sizeL_mem (List.getElem_mem hi)
      have hle := sizeL_take_le l i (by omega)
      have q := rrules_eq n l[i] (by omega) (by omega)
      have h2 : ([r0] ++ Tm.preL Tm.rule (l.take i)).length + l[i].rules.length ≤ 2001 := by
        rw [List.length_append, Tm.preL_length, Tm.rules_length]; simp; omega
      have happ : app 8 ([r0] ++ Tm.preL Tm.rule (l.take i)) l[i].rules = some ([r0] ++ Tm.preL Tm.rule (l.take (i + 1))) := by
        rw [app_eq (by omega), Tm.preL_take_succ _ hi, List.append_assoc]; rfl
      simp only [synthesisref13_Rules_l1, b1, cond_true, idx_nat, e1, Option.bind_some, q, happ, w64_succ (n := i) (by omega)]) (by
      have b1 : decide ((l.length : Int) < ((Tm.mk r0 l).args.length : Int)) = false := decide_eq_false (by show ¬ (l.length : Int) < (l.length : Int); omega)
      simp only [synthesisref13_Rules_l1, b1, cond_false, List.take_length])
    have hl' : loopN (synthesisref13_Rules_l1 (Tm.mk r0 l) (synthesisref13_Rules n)) fuel (0, [r0]) = some ([r0] ++ Tm.preL Tm.rule l) := by simpa [Tm.preL] using hl
    unfold synthesisref13_Rules_b
    have hr : (Tm.mk r0 l).rule = r0 := rfl
    rw [hr, hl', Option.bind_some]
    rfl
theorem rarities_eq : ∀ (n : Nat) (t : Tm), t.size ≤ 1000 → t.size ≤ n → synthesisref13_arities n t = some t.arities
  | 0, t, _, h => by have := Tm.size_pos t; omega
  | n + 1, t, ht, hn => by
    show synthesisref13_arities_b (synthesisref13_arities n) t = _
    obtain ⟨r0, l⟩ := t
    have hsz : (Tm.mk r0 l).size = Tm.sizeL l + 1 := rfl
    have hlen := len_le_sizeL l
    have hl := loop_end (step := synthesisref13_arities_l1 (Tm.mk r0 l) (synthesisref13_arities n)) l.length (by omega) (fun i => ((i : Int), [(l.length : Int)] ++ Tm.preL Tm.nargs (l.take i))) ([(l.length : Int)] ++ Tm.preL Tm.nargs l) (fun i hi => by
      have e1 : (Tm.mk r0 l).args[i]? = some l[i] := List.getElem?_eq_getElem hi
      have b1 : decide ((i : Int) < ((Tm.mk r0 l).args.length : Int)) = true := decide_eq_true (by show (i : Int) < (l.length : Int); omega)
      have hs := Tm.sizeL_mem (List.getElem_mem hi)
      have hle := sizeL_take_le l i (by omega)
      have q := rarities_eq n l[i] (by omega) (by omega)
      have h2 : ([(l.length : Int)] ++ Tm.preL Tm.nargs (l.take i)).length + l[i].arities.length ≤ 2001 := by
        rw [List.length_append, Tm.preL_length, Tm.arities_length]; simp; omega
      have happ : app 8 ([(l.length : Int)] ++ Tm.preL Tm.nargs (l.take i)) l[i].arities = some ([(l.length : Int)] ++ Tm.preL Tm.nargs (l.take (i + 1))) := by
        rw [app_eq (by omega), Tm.preL_take_succ _ hi, List.append_assoc]; rfl
      simp only [synthesisref13_arities_l1, b1, cond_true, idx_nat, e1, Option.bind_some, q, happ, w64_succ (n := i) (by omega)]) (by
      have b1 : decide ((l.length : Int) < ((Tm.mk r0 l).args.length : Int)) = false := decide_eq_false (by show ¬ (l.length : Int) < (l.length : Int); omega)
      simp only [synthesisref13_arities_l1, b1, cond_false, List.take_length])
    have hl' : loopN (synthesisref13_arities_l1 (Tm.mk r0 l) (synthesisref13_arities n)) fuel (0, [(l.length : Int)]) = some ([(l.length : Int)] ++ Tm.preL Tm.nargs l) := by simpa [Tm.preL] using hl
    unfold synthesisref13_arities_b
    have hr : (Tm.mk r0 l).args = l := rfl
    rw [hr, hl', Option.bind_some]
    rfl
theorem cmpInts_self (xs : List Int) (h : xs.length ≤ 100000) : synthesisref13_CompareInts xs xs = some 0 := by
  have hl := loop_end (step := synthesisref13_CompareInts_l1 xs xs) xs.length (by omega) (fun i => (i : Int)) (.inl () : Unit ⊕ Int) (fun i hi => by
    have e1 : xs[i]? = some xs[i] := List.getElem?_eq_getElem hi
    have b1 : decide ((i : Int) < (xs.length : Int)) = true := decide_eq_true (by omega)
    have b2 : decide (xs[i] < xs[i]) = false := decide_eq_false (Int.lt_irrefl _)
    simp only [synthesisref13_CompareInts_l1, b1, cond_true, Option.bind_some, idx_nat, e1, b2, cond_false, w64_succ (n := i) (by omega)]) (by
    have b1 : decide ((xs.length : Int) < (xs.length : Int)) = false := decide_eq_false (by omega)
    simp only [synthesisref13_CompareInts_l1, b1, cond_false, Option.bind_some])
  have hl' : loopN (synthesisref13_CompareInts_l1 xs xs) fuel 0 = some (.inl ()) := by simpa using hl
  unfold synthesisref13_CompareInts
  rw [hl']
  have b1 : decide ((xs.length : Int) < (xs.length : Int)) = false := decide_eq_false (by omega)
  simp only [Option.bind_some, Sum.elim_inl, synthesisref13_order, b1, cond_false]
theorem refCmp_self (t : Tm) (h : t.size ≤ 1000) : synthesisref13_Compare t t = some 0 := by
  have hf : t.size ≤ fuel := Nat.le_of_lt (lt_fuel (by omega))
  unfold synthesisref13_Compare
  have b1 : decide ((t.size : Int) < (t.size : Int)) = false := decide_eq_false (by omega)
  simp only [rsize_eq fuel t h hf, rrules_eq fuel t h hf, rarities_eq fuel t h hf, Option.bind_some, synthesisref13_order, b1, cond_false, cmpInts_self t.rules (by rw [Tm.rules_length]; omega), cmpInts_self t.arities (by rw [Tm.arities_length]; omega)]
  rfl

/-! terms out of rules -/
theorem cutL_drop {α : Type} (xs : List α) (c : Nat) (h : c ≤ xs.length) : cutL xs (c : Int) (xs.length : Int) = some (xs.drop c) := by
  unfold cutL
  rw [if_pos ⟨by omega, by omega, by omega⟩]
  simp
def goodL (l : La) : Prop := (∀ x ∈ l.rules, x.kind ≠ 3 → x.args.length = 0) ∧ ∀ x ∈ l.rules, x.args.length ≤ 1000
theorem arity_eq {l : La} (hl : goodL l) {x : Ru} (hx : x ∈ l.rules) : synthesisref13_Arity x = some (x.args.length : Int) := by
  unfold synthesisref13_Arity
  by_cases hk : x.kind = 3
  · rw [show (x.kind != 3) = false by rw [bne_eq_false_iff_eq]; exact hk]; rfl
  · rw [show (x.kind != 3) = true by rw [bne_iff_ne]; exact hk, hl.1 x hx hk]; rfl
theorem read_both : ∀ (n : Nat) (l : La) (s : Int) (rs : List Int), rs.length < n → rs.length ≤ 5000 → goodL l →
    (∃ t k, 1 ≤ k ∧ k ≤ rs.length ∧ term_builder_next_h n ⟨l, rs⟩ s = some (.inl (rs.drop k, t.rule, t.args)) ∧ synthesisref13_read n l s rs = some (t, (k : Int), 0) ∧ t.size = k ∧ t.rules = rs.take k) ∨
    ∃ c rest, c ≠ 0 ∧ term_builder_next_h n ⟨l, rs⟩ s = some (.inr (⟨c⟩, rest)) ∧ synthesisref13_read n l s rs = some (.mk 0 [], 0, c)
  | 0, l, s, rs, h, _, _ => by omega
  | n + 1, l, s, rs, hn, hb, hl => by
    show (∃ t k, 1 ≤ k ∧ k ≤ rs.length ∧ term_builder_next_h_b (term_builder_next_h n) ⟨l, rs⟩ s = some (.inl (rs.drop k, t.rule, t.args)) ∧ synthesisref13_read_b (synthesisref13_read n) l s rs = some (t, (k : Int), 0) ∧ t.size = k ∧ t.rules = rs.take k) ∨
      ∃ c rest, c ≠ 0 ∧ term_builder_next_h_b (term_builder_next_h n) ⟨l, rs⟩ s = some (.inr (⟨c⟩, rest)) ∧ synthesisref13_read_b (synthesisref13_read n) l s rs = some (.mk 0 [], 0, c)
    cases rs with
    | nil => exact .inr ⟨2, [], by omega, rfl, rfl⟩
    | cons v rs' =>
      have hlen : (v :: rs').length = rs'.length + 1 := rfl
      have hz : (((v :: rs').length : Int) == 0) = false := by rw [beq_eq_false_iff_ne]; omega
      have h0 : idx (v :: rs') 0 = some v := rfl
      have hcut : cutL (v :: rs') 1 ((v :: rs').length : Int) = some rs' := cutL_drop (v :: rs') 1 (by omega)
      unfold term_builder_next_h_b synthesisref13_read_b
      simp only [hz, cond_false, h0, Option.bind_some, hcut]
      by_cases v0 : v < 0
      · rw [decide_eq_true v0]; exact .inr ⟨1, _, by omega, rfl, rfl⟩
      by_cases v1 : (l.rules.length : Int) ≤ v
      · rw [decide_eq_false v0, decide_eq_true v1]; exact .inr ⟨1, _, by omega, rfl, rfl⟩
      rw [decide_eq_false v0, decide_eq_false v1]
      obtain ⟨x, hx, hxm⟩ := idx_int (xs := l.rules) (i := v) (by omega) (by omega)
      simp only [cond_false, Option.bind_some, hx]
      have hB : ∃ B, (bif decide (0 ≤ s) then some (x.symbol != s) else some false) = some B := by cases decide (0 ≤ s) <;> exact ⟨_, rfl⟩
      obtain ⟨B, hB⟩ := hB
      rw [hB]
      simp only [Option.bind_some]
      cases B with
      | true => exact .inr ⟨3, _, by omega, rfl, rfl⟩
      | false =>
        have har := arity_eq hl hxm
        have hx2 := hl.2 x hxm
        obtain ⟨r, r', h1, h2, h3⟩ := loop_inv2 (step := term_builder_next_h_l1 ⟨l, v :: rs'⟩ (term_builder_next_h n) x) (step' := synthesisref13_read_l1 l (v :: rs') (synthesisref13_read n) x) x.args.length (by omega)
          (fun i a a' => ∃ c out, 1 ≤ c ∧ c ≤ (v :: rs').length ∧ a = ((i : Int), (v :: rs').drop c, out) ∧ a' = ((c : Int), (i : Int), out) ∧ Tm.sizeL out + 1 = c ∧ [v] ++ Tm.preL Tm.rule out = (v :: rs').take c)
          (fun b b' => (∃ c out, 1 ≤ c ∧ c ≤ (v :: rs').length ∧ b = .inl ((v :: rs').drop c, out) ∧ b' = .inl ((c : Int), out) ∧ Tm.sizeL out + 1 = c ∧ [v] ++ Tm.preL Tm.rule out = (v :: rs').take c) ∨ ∃ e rest, e ≠ 0 ∧ b = .inr (⟨e⟩, rest) ∧ b' = .inr (.mk 0 [], 0, e))
          (fun i a a' hi ⟨c, out, c1, c2, ha, ha', c3, c4⟩ => by
            subst ha ha'
            have e2 : x.args[i]? = some x.args[i] := List.getElem?_eq_getElem hi
            have b1 : decide ((i : Int) < (x.args.length : Int)) = true := decide_eq_true (by omega)
            have hcut2 := cutL_drop (v :: rs') c c2
            have hout := len_le_sizeL out
            simp only [term_builder_next_h_l1, synthesisref13_read_l1, har, b1, cond_true, Option.bind_some, idx_nat, e2, hcut2]
            rcases read_both n l x.args[i] ((v :: rs').drop c) (by rw [List.length_drop]; omega) (by rw [List.length_drop]; omega) hl with ⟨t, k, k1, k2, q1, q2, q3, q4⟩ | ⟨e, rest, he, q1, q2⟩
            · rw [List.length_drop] at k2
              rw [q1, q2]
              have happ : app 32 out [Tm.mk t.rule t.args] = some (out ++ [t]) := by
                rw [app_eq (by simp; omega)]; cases t; rfl
              have happ2 : app 32 out [t] = some (out ++ [t]) := app_eq (by simp; omega)
              have hw : w64 ((c : Int) + (k : Int)) = ((c + k : Nat) : Int) := by rw [w64_eq (by omega) (by omega)]; omega
              have hz2 : ((0 : Int) != 0) = false := rfl
              simp only [Option.bind_some, Sum.elim_inl, happ, happ2, hz2, cond_false, hw, w64_succ (n := i) (by omega), List.drop_drop]
              refine .inl ⟨_, _, rfl, rfl, c + k, out ++ [t], by omega, by omega, rfl, rfl, by rw [Tm.sizeL_snoc]; omega, ?_⟩
              rw [Tm.preL_snoc, ← List.append_assoc, c4]
              have : t.pre Tm.rule = ((v :: rs').drop c).take k := q4
              rw [this, List.take_add]
            · rw [q1, q2]
              have hz2 : (e != 0) = true := by rw [bne_iff_ne]; exact he
              simp only [Option.bind_some, Sum.elim_inr, hz2, cond_true]
              exact .inr ⟨_, _, rfl, rfl, .inr ⟨e, rest, he, rfl, rfl⟩⟩)
          (fun a a' ⟨c, out, c1, c2, ha, ha', c3, c4⟩ => by
            subst ha ha'
            have b1 : decide ((x.args.length : Int) < (x.args.length : Int)) = false := decide_eq_false (by omega)
            simp only [term_builder_next_h_l1, synthesisref13_read_l1, har, b1, cond_false, Option.bind_some]
            exact ⟨_, _, rfl, rfl, .inl ⟨c, out, c1, c2, rfl, rfl, c3, c4⟩⟩)
          ((0 : Int), rs', []) ((1 : Int), (0 : Int), []) ⟨1, [], Nat.le_refl _, by omega, rfl, rfl, rfl, rfl⟩
        simp only [cond_false, h1, h2, Option.bind_some]
        rcases h3 with ⟨c, out, c1, c2, rfl, rfl, c3, c4⟩ | ⟨e, rest, he, rfl, rfl⟩
        · exact .inl ⟨.mk v out, c, c1, c2, rfl, rfl, by rw [← c3]; rfl, c4⟩
        · exact .inr ⟨e, rest, he, rfl, rfl⟩
theorem fine_good {l : La} (h : fineL l) (h2 : ∀ x ∈ l.rules, x.kind ≠ 3 → x.args.length = 0) : goodL l := ⟨h2, fun x hx => (h.2.2.2.2.2 x hx).1⟩
/-- both build the same -/
theorem build_both (l : La) (rs : List Int) (hl : fineL l) (hr : rs.length ≤ 1000) : ∃ t e, t.size ≤ 1000 ∧ term_Build_h l rs = some (t.rule, t.args, e) ∧ synthesisref13_Build l rs = some (t, e) := by
  obtain ⟨c, c1, c2, c3⟩ := lang_both l hl
  unfold term_Build_h synthesisref13_Build
  rw [c1, c2]
  simp only [Option.bind_some]
  by_cases hc : c = 0
  · subst hc
    have hz : ((0 : Int) != 0) = false := rfl
    have h4 : decide ((4096 : Int) < (rs.length : Int)) = false := decide_eq_false (by omega)
    rw [hz, h4]
    simp only [cond_false]
    rcases read_both fuel l (-1) rs (lt_fuel (by omega)) (by omega) (fine_good hl (c3 rfl)) with ⟨t, k, k1, k2, q1, q2, q3, q4⟩ | ⟨e, rest, he, q1, q2⟩
    · have hts : t.size ≤ 1000 := by omega
      have hsh : term_shallow fuel (Tm.mk t.rule t.args) 32 = some (decide (t.depth ≤ 32)) := by
        have : Tm.mk t.rule t.args = t := by cases t; rfl
        rw [this]; exact shallowT_eq fuel t 32 (by omega) hts (Nat.le_of_lt (lt_fuel (by omega)))
      have hd := depth_eq fuel t hts (Nat.le_of_lt (lt_fuel (by omega)))
      have hlen : decide ((0 : Int) < ((rs.drop k).length : Int)) = decide ((k : Int) < (rs.length : Int)) := decide_eq_decide.2 (by rw [List.length_drop]; omega)
      have hde : (!(decide (t.depth ≤ 32))) = decide ((32 : Int) < (t.depth : Int)) := by
        rw [← decide_not]
        exact decide_eq_decide.2 (by omega)
      have hz2 : ((0 : Int) != 0) = false := rfl
      simp only [q1, q2, Option.bind_some, Sum.elim_inl, hz2, cond_false, hlen, hsh, hd, hde]
      cases decide ((k : Int) < (rs.length : Int)) with
      | true => exact ⟨.mk 0 [], 2, by decide, rfl, rfl⟩
      | false =>
        simp only [cond_false, Option.bind_some]
        cases decide ((32 : Int) < (t.depth : Int)) with
        | true => exact ⟨.mk 0 [], 2, by decide, rfl, rfl⟩
        | false => exact ⟨t, 0, hts, rfl, rfl⟩
    · have hz2 : (e != 0) = true := by rw [bne_iff_ne]; exact he
      simp only [q1, q2, Option.bind_some, Sum.elim_inr, hz2, cond_true]
      exact ⟨.mk 0 [], e, by decide, rfl, rfl⟩
  · rw [show (c != 0) = true by rw [bne_iff_ne]; exact hc]
    exact ⟨.mk 0 [], c, by decide, rfl, rfl⟩
theorem law_TermBuilds (l : La) (rs : List Int) (hl : inLa l) (hr : rs.length ≤ 9223372036854775807) : synthesislaw13_TermBuilds l rs = some true := by
  obtain ⟨b, hb, hb2⟩ := few_spec l hl
  unfold synthesislaw13_TermBuilds
  rw [hb]
  simp only [Option.bind_some]
  cases b with
  | false => simp only [Bool.not_false, cond_true, alive13, Option.bind_some]
  | true =>
    simp only [Bool.not_true, cond_false, Option.bind_some]
    by_cases h60 : (60 : Int) < (rs.length : Int)
    · simp only [decide_eq_true h60, cond_true, alive13, Option.bind_some]
    · obtain ⟨t, e, ht, q1, q2⟩ := build_both l rs (hb2 rfl) (by omega)
      have hme : Tm.mk t.rule t.args = t := by cases t; rfl
      simp only [decide_eq_false h60, cond_false, q1, q2, Option.bind_some, hme, refCmp_self t ht, beq_self_eq_true, cond_true, alive13]
end Go.Proofs.Ytaeicmnimjfbaaa
