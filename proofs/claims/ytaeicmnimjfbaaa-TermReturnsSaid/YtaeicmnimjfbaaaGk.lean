/- The program's own order of a term and itself; reading back what a term's rules say; the law TermReturns. -/
import Derived.Test.YtaeicmnimjfbaaaGj
set_option linter.unusedVariables false
set_option linter.unusedSimpArgs false
namespace Go.Proofs.Ytaeicmnimjfbaaa
open Go Go.RowKit

theorem tsize_eq : ∀ (n : Nat) (t : Tm), t.size ≤ 1000 → t.size ≤ n → term_Size n t = some (t.size : Int)
  | 0, t, _, h => by have := Tm.size_pos t; omega
  | n + 1, t, ht, hn => by
    show term_Size_b (term_Size n) t = _
    obtain ⟨r0, l⟩ := t
    have hsz : (Tm.mk r0 l).size = Tm.sizeL l + 1 := rfl
    have hlen := len_le_sizeL l
    have hl := loop_end (step := term_Size_l1 (Tm.mk r0 l) (term_Size n)) l.length (by omega) (fun i => (((1 + Tm.sizeL (l.take i) : Nat) : Int), (i : Int))) ((1 + Tm.sizeL l : Nat) : Int) (fun i hi => by
      have e1 : (Tm.mk r0 l).args[i]? = some l[i] := List.getElem?_eq_getElem hi
      have b1 : decide ((i : Int) < ((Tm.mk r0 l).args.length : Int)) = true := decide_eq_true (by show (i : Int) < (l.length : Int); omega)
      have hs := Tm.sizeL_mem (List.getElem_mem hi)
      have hle := sizeL_take_le l i (by omega)
      have q := tsize_eq n l[i] (by omega) (by omega)
      have hstep : w64 (((1 + Tm.sizeL (l.take i) : Nat) : Int) + (l[i].size : Int)) = ((1 + Tm.sizeL (l.take (i + 1)) : Nat) : Int) := by
        rw [sizeL_take hi, w64_eq (by omega) (by omega)]; omega
      simp only [term_Size_l1, b1, cond_true, idx_nat, e1, Option.bind_some, q, hstep, w64_succ (n := i) (by omega)]) (by
      have b1 : decide ((l.length : Int) < ((Tm.mk r0 l).args.length : Int)) = false := decide_eq_false (by show ¬ (l.length : Int) < (l.length : Int); omega)
      simp only [term_Size_l1, b1, cond_false, List.take_length])
    have hl' : loopN (term_Size_l1 (Tm.mk r0 l) (term_Size n)) fuel (1, 0) = some ((1 + Tm.sizeL l : Nat) : Int) := by simpa [Tm.sizeL] using hl
    unfold term_Size_b
    rw [hl', Option.bind_some, hsz, Nat.add_comm]
theorem collect_h2 : ∀ (n : Nat) (t : Tm) (acc : List Int), acc.length + t.size ≤ 100000 → t.size ≤ n → term_collect_h2 n acc t = some (acc ++ t.rules)
  | 0, t, acc, _, h => by have := Tm.size_pos t; omega
  | n + 1, t, acc, ht, hn => by
    show term_collect_h2_b (term_collect_h2 n) acc t = _
    obtain ⟨r0, l⟩ := t
    have hsz : (Tm.mk r0 l).size = Tm.sizeL l + 1 := rfl
    have hlen := len_le_sizeL l
    have hl := loop_end (step := term_collect_h2_l1 (Tm.mk r0 l) (term_collect_h2 n)) l.length (by omega) (fun i => ((i : Int), (acc ++ [r0]) ++ Tm.preL Tm.rule (l.take i))) ((acc ++ [r0]) ++ Tm.preL Tm.rule l) (fun i hi => by
      have e1 : (Tm.mk r0 l).args[i]? = some l[i] := List.getElem?_eq_getElem hi
      have b1 : decide ((i : Int) < ((Tm.mk r0 l).args.length : Int)) = true := decide_eq_true (by show (i : Int) < (l.length : Int); omega)
      have hs := Tm.sizeL_mem (List.getElem_mem hi)
      have hle := sizeL_take_le l i (by omega)
      have hle2 := sizeL_take hi
      have hle3 := sizeL_take_le l (i + 1) (by omega)
      have q := collect_h2 n l[i] ((acc ++ [r0]) ++ Tm.preL Tm.rule (l.take i)) (by rw [List.length_append, List.length_append, Tm.preL_length]; simp only [List.length_cons, List.length_nil]; omega) (by omega)
      have happ : ((acc ++ [r0]) ++ Tm.preL Tm.rule (l.take i)) ++ l[i].rules = (acc ++ [r0]) ++ Tm.preL Tm.rule (l.take (i + 1)) := by
        rw [Tm.preL_take_succ _ hi, List.append_assoc]; rfl
      rw [happ] at q
      simp only [term_collect_h2_l1, b1, cond_true, idx_nat, e1, Option.bind_some, q, w64_succ (n := i) (by omega)]) (by
      have b1 : decide ((l.length : Int) < ((Tm.mk r0 l).args.length : Int)) = false := decide_eq_false (by show ¬ (l.length : Int) < (l.length : Int); omega)
      simp only [term_collect_h2_l1, b1, cond_false, List.take_length])
    have hl' : loopN (term_collect_h2_l1 (Tm.mk r0 l) (term_collect_h2 n)) fuel (0, acc ++ [r0]) = some ((acc ++ [r0]) ++ Tm.preL Tm.rule l) := by simpa [Tm.preL] using hl
    have happ0 : app 8 acc [r0] = some (acc ++ [r0]) := app_eq (by simp; omega)
    unfold term_collect_h2_b
    have hr : (Tm.mk r0 l).rule = r0 := rfl
    have hu : term_Rules_1_h (Tm.mk r0 l) = some () := rfl
    rw [hr, hu, Option.bind_some, happ0, Option.bind_some, hl', Option.bind_some, List.append_assoc]
    rfl
theorem collect_h4 : ∀ (n : Nat) (t : Tm) (acc : List Int), acc.length + t.size ≤ 100000 → t.size ≤ n → term_collect_h4 n acc t = some (acc ++ t.arities)
  | 0, t, acc, _, h => by have := Tm.size_pos t; omega
  | n + 1, t, acc, ht, hn => by
    show term_collect_h4_b (term_collect_h4 n) acc t = _
    obtain ⟨r0, l⟩ := t
    have hsz : (Tm.mk r0 l).size = Tm.sizeL l + 1 := rfl
    have hlen := len_le_sizeL l
    have hl := loop_end (step := term_collect_h4_l1 (Tm.mk r0 l) (term_collect_h4 n)) l.length (by omega) (fun i => ((i : Int), (acc ++ [(l.length : Int)]) ++ Tm.preL Tm.nargs (l.take i))) ((acc ++ [(l.length : Int)]) ++ Tm.preL Tm.nargs l) (fun i hi => by
      have e1 : (Tm.mk r0 l).args[i]? = some l[i] := List.getElem?_eq_getElem hi
      have b1 : decide ((i : Int) < ((Tm.mk r0 l).args.length : Int)) = true := decide_eq_true (by show (i : Int) < (l.length : Int); omega)
      have hs := Tm.sizeL_mem (List.getElem_mem hi)
      have hle := sizeL_take_le l i (by omega)
      have hle2 := sizeL_take hi
      have hle3 := sizeL_take_le l (i + 1) (by omega)
      have q := collect_h4 n l[i] ((acc ++ [(l.length : Int)]) ++ Tm.preL Tm.nargs (l.take i)) (by rw [List.length_append, List.length_append, Tm.preL_length]; simp only [List.length_cons, List.length_nil]; omega) (by omega)
      have happ : ((acc ++ [(l.length : Int)]) ++ Tm.preL Tm.nargs (l.take i)) ++ l[i].arities = (acc ++ [(l.length : Int)]) ++ Tm.preL Tm.nargs (l.take (i + 1)) := by
        rw [Tm.preL_take_succ _ hi, List.append_assoc]; rfl
      rw [happ] at q
      simp only [term_collect_h4_l1, b1, cond_true, idx_nat, e1, Option.bind_some, q, w64_succ (n := i) (by omega)]) (by
      have b1 : decide ((l.length : Int) < ((Tm.mk r0 l).args.length : Int)) = false := decide_eq_false (by show ¬ (l.length : Int) < (l.length : Int); omega)
      simp only [term_collect_h4_l1, b1, cond_false, List.take_length])
    have hl' : loopN (term_collect_h4_l1 (Tm.mk r0 l) (term_collect_h4 n)) fuel (0, acc ++ [(l.length : Int)]) = some ((acc ++ [(l.length : Int)]) ++ Tm.preL Tm.nargs l) := by simpa [Tm.preL] using hl
    have happ0 : app 8 acc [(l.length : Int)] = some (acc ++ [(l.length : Int)]) := app_eq (by simp; omega)
    unfold term_collect_h4_b
    have hr : (Tm.mk r0 l).args = l := rfl
    have hu : term_Compare_1_h (Tm.mk r0 l) = some () := rfl
    rw [hr, hu, Option.bind_some, happ0, Option.bind_some, hl', Option.bind_some, List.append_assoc]
    rfl
theorem trules_eq (t : Tm) (ht : t.size ≤ 1000) : term_Rules t = some t.rules := by
  obtain ⟨r0, l⟩ := t
  have hsz : (Tm.mk r0 l).size = Tm.sizeL l + 1 := rfl
  have hlen := len_le_sizeL l
  have hl := loop_end (step := term_Rules_l1 (Tm.mk r0 l)) l.length (by omega) (fun i => ((i : Int), [r0] ++ Tm.preL Tm.rule (l.take i))) ([r0] ++ Tm.preL Tm.rule l) (fun i hi => by
    have e1 : (Tm.mk r0 l).args[i]? = some l[i] := List.getElem?_eq_getElem hi
    have b1 : decide ((i : Int) < ((Tm.mk r0 l).args.length : Int)) = true := decide_eq_true (by show (i : Int) < (l.length : Int); omega)
    have hs := Tm.sizeL_mem (List.getElem_mem hi)
    have hle := sizeL_take_le l i (by omega)
    have q := collect_h2 fuel l[i] ([r0] ++ Tm.preL Tm.rule (l.take i)) (by rw [List.length_append, Tm.preL_length]; simp only [List.length_cons, List.length_nil]; omega) (Nat.le_of_lt (lt_fuel (by omega)))
    have happ : ([r0] ++ Tm.preL Tm.rule (l.take i)) ++ l[i].rules = [r0] ++ Tm.preL Tm.rule (l.take (i + 1)) := by
      rw [Tm.preL_take_succ _ hi, List.append_assoc]; rfl
    rw [happ] at q
    simp only [term_Rules_l1, b1, cond_true, idx_nat, e1, Option.bind_some, q, w64_succ (n := i) (by omega)]) (by
    have b1 : decide ((l.length : Int) < ((Tm.mk r0 l).args.length : Int)) = false := decide_eq_false (by show ¬ (l.length : Int) < (l.length : Int); omega)
    simp only [term_Rules_l1, b1, cond_false, List.take_length])
  have hl' : loopN (term_Rules_l1 (Tm.mk r0 l)) fuel (0, [r0]) = some ([r0] ++ Tm.preL Tm.rule l) := by simpa [Tm.preL] using hl
  have happ0 : app 8 ([] : List Int) [r0] = some [r0] := rfl
  unfold term_Rules
  have hr : (Tm.mk r0 l).rule = r0 := rfl
  have hu : term_Rules_1_h (Tm.mk r0 l) = some () := rfl
  rw [hr, hu, Option.bind_some, happ0, Option.bind_some, hl', Option.bind_some]
  rfl
theorem tar1_eq (t : Tm) (ht : t.size ≤ 1000) : term_collect_h3 t = some t.arities := by
  obtain ⟨r0, l⟩ := t
  have hsz : (Tm.mk r0 l).size = Tm.sizeL l + 1 := rfl
  have hlen := len_le_sizeL l
  have hl := loop_end (step := term_collect_h3_l1 (Tm.mk r0 l)) l.length (by omega) (fun i => ((i : Int), [(l.length : Int)] ++ Tm.preL Tm.nargs (l.take i))) ([(l.length : Int)] ++ Tm.preL Tm.nargs l) (fun i hi => by
    have e1 : (Tm.mk r0 l).args[i]? = some l[i] := List.getElem?_eq_getElem hi
    have b1 : decide ((i : Int) < ((Tm.mk r0 l).args.length : Int)) = true := decide_eq_true (by show (i : Int) < (l.length : Int); omega)
    have hs := Tm.sizeL_mem (List.getElem_mem hi)
    have hle := sizeL_take_le l i (by omega)
    have q := collect_h4 fuel l[i] ([(l.length : Int)] ++ Tm.preL Tm.nargs (l.take i)) (by rw [List.length_append, Tm.preL_length]; simp only [List.length_cons, List.length_nil]; omega) (Nat.le_of_lt (lt_fuel (by omega)))
    have happ : ([(l.length : Int)] ++ Tm.preL Tm.nargs (l.take i)) ++ l[i].arities = [(l.length : Int)] ++ Tm.preL Tm.nargs (l.take (i + 1)) := by
      rw [Tm.preL_take_succ _ hi, List.append_assoc]; rfl
    rw [happ] at q
    simp only [term_collect_h3_l1, b1, cond_true, idx_nat, e1, Option.bind_some, q, w64_succ (n := i) (by omega)]) (by
    have b1 : decide ((l.length : Int) < ((Tm.mk r0 l).args.length : Int)) = false := decide_eq_false (by show ¬ (l.length : Int) < (l.length : Int); omega)
    simp only [term_collect_h3_l1, b1, cond_false, List.take_length])
  have hl' : loopN (term_collect_h3_l1 (Tm.mk r0 l)) fuel (0, [(l.length : Int)]) = some ([(l.length : Int)] ++ Tm.preL Tm.nargs l) := by simpa [Tm.preL] using hl
  have happ0 : app 8 ([] : List Int) [(l.length : Int)] = some [(l.length : Int)] := rfl
  unfold term_collect_h3
  have hr : (Tm.mk r0 l).args = l := rfl
  have hu : term_Compare_1_h (Tm.mk r0 l) = some () := rfl
  rw [hr, hu, Option.bind_some, happ0, Option.bind_some, hl', Option.bind_some]
  rfl
theorem tar2_eq (t : Tm) (ht : t.size ≤ 1000) : (Option.bind (app 8 ([] : List Int) [(t.args.length : Int)]) fun v => loopN (term_Compare_l1 t) fuel (0, v)) = some t.arities := by
  obtain ⟨r0, l⟩ := t
  have hsz : (Tm.mk r0 l).size = Tm.sizeL l + 1 := rfl
  have hlen := len_le_sizeL l
  have hl := loop_end (step := term_Compare_l1 (Tm.mk r0 l)) l.length (by omega) (fun i => ((i : Int), [(l.length : Int)] ++ Tm.preL Tm.nargs (l.take i))) ([(l.length : Int)] ++ Tm.preL Tm.nargs l) (fun i hi => by
    have e1 : (Tm.mk r0 l).args[i]? = some l[i] := List.getElem?_eq_getElem hi
    have b1 : decide ((i : Int) < ((Tm.mk r0 l).args.length : Int)) = true := decide_eq_true (by show (i : Int) < (l.length : Int); omega)
    have hs := Tm.sizeL_mem (List.getElem_mem hi)
    have hle := sizeL_take_le l i (by omega)
    have q := collect_h4 fuel l[i] ([(l.length : Int)] ++ Tm.preL Tm.nargs (l.take i)) (by rw [List.length_append, Tm.preL_length]; simp only [List.length_cons, List.length_nil]; omega) (Nat.le_of_lt (lt_fuel (by omega)))
    have happ : ([(l.length : Int)] ++ Tm.preL Tm.nargs (l.take i)) ++ l[i].arities = [(l.length : Int)] ++ Tm.preL Tm.nargs (l.take (i + 1)) := by
      rw [Tm.preL_take_succ _ hi, List.append_assoc]; rfl
    rw [happ] at q
    simp only [term_Compare_l1, b1, cond_true, idx_nat, e1, Option.bind_some, q, w64_succ (n := i) (by omega)]) (by
    have b1 : decide ((l.length : Int) < ((Tm.mk r0 l).args.length : Int)) = false := decide_eq_false (by show ¬ (l.length : Int) < (l.length : Int); omega)
    simp only [term_Compare_l1, b1, cond_false, List.take_length])
  have hl' : loopN (term_Compare_l1 (Tm.mk r0 l)) fuel (0, [(l.length : Int)]) = some ([(l.length : Int)] ++ Tm.preL Tm.nargs l) := by simpa [Tm.preL] using hl
  have happ0 : app 8 ([] : List Int) [(l.length : Int)] = some [(l.length : Int)] := rfl
  have hr : (Tm.mk r0 l).args = l := rfl
  rw [hr, happ0, Option.bind_some, hl']
  rfl
theorem tlex_self (xs : List Int) (h : xs.length ≤ 100000) : term_lexical xs xs = some 0 := by
  have hl := loop_end (step := term_lexical_l1 xs xs) xs.length (by omega) (fun i => (i : Int)) (.inl () : Unit ⊕ Int) (fun i hi => by
    have e1 : xs[i]? = some xs[i] := List.getElem?_eq_getElem hi
    have b1 : decide ((i : Int) < (xs.length : Int)) = true := decide_eq_true (by omega)
    have b2 : decide (xs[i] < xs[i]) = false := decide_eq_false (Int.lt_irrefl _)
    simp only [term_lexical_l1, b1, cond_true, Option.bind_some, idx_nat, e1, b2, cond_false, w64_succ (n := i) (by omega)]) (by
    have b1 : decide ((xs.length : Int) < (xs.length : Int)) = false := decide_eq_false (by omega)
    simp only [term_lexical_l1, b1, cond_false, Option.bind_some])
  have hl' : loopN (term_lexical_l1 xs xs) fuel 0 = some (.inl ()) := by simpa using hl
  unfold term_lexical
  rw [hl']
  rfl
theorem tcmp_self (t : Tm) (h : t.size ≤ 1000) : term_Compare t t = some 0 := by
  have hf : t.size ≤ fuel := Nat.le_of_lt (lt_fuel (by omega))
  have b1 : decide ((t.size : Int) < (t.size : Int)) = false := decide_eq_false (by omega)
  have q := tar2_eq t h
  have happ0 : app 8 ([] : List Int) [(t.args.length : Int)] = some [(t.args.length : Int)] := rfl
  rw [happ0, Option.bind_some] at q
  have hu : term_Compare_1_h t = some () := rfl
  unfold term_Compare
  simp only [tsize_eq fuel t h hf, trules_eq t h, tar1_eq t h, Option.bind_some, b1, cond_false, tlex_self t.rules (by rw [Tm.rules_length]; omega), hu, happ0, q, tlex_self t.arities (by rw [Tm.arities_length]; omega)]
  rfl

/-! reading a term's rules back gives the term -/
theorem sizeL_drop : ∀ (l : List Tm) (i : Nat), Tm.sizeL (l.drop i) ≤ Tm.sizeL l
  | [], i => by simp
  | t :: l, 0 => Nat.le_refl _
  | t :: l, i + 1 => by
    have := sizeL_drop l i
    simp only [List.drop_succ_cons, Tm.sizeL]
    omega
theorem read_back : ∀ (n : Nat) (l : La) (s s' : Int) (t : Tm) (more : List Int), t.size + more.length ≤ 100000 → t.size ≤ n → t.size ≤ 1000 → goodL l → term_derived n l s t = some 0 → s' = s ∨ s' < 0 →
    term_builder_next_h n ⟨l, t.rules ++ more⟩ s' = some (.inl (more, t.rule, t.args))
  | 0, l, s, s', t, more, _, h, _, _, _, _ => by have := Tm.size_pos t; omega
  | n + 1, l, s, s', t, more, ht, hn, ht2, hL, hd, hs' => by
    obtain ⟨r0, ts⟩ := t
    have hsz : (Tm.mk r0 ts).size = Tm.sizeL ts + 1 := rfl
    have hlen := len_le_sizeL ts
    have hrr : (Tm.mk r0 ts).rule = r0 := rfl
    have haa : (Tm.mk r0 ts).args = ts := rfl
    have hru : (Tm.mk r0 ts).rules ++ more = r0 :: (Tm.preL Tm.rule ts ++ more) := rfl
    replace hd : term_derived_b (term_derived n) l s (Tm.mk r0 ts) = some 0 := hd
    show term_builder_next_h_b (term_builder_next_h n) ⟨l, (Tm.mk r0 ts).rules ++ more⟩ s' = _
    rw [hru]
    unfold term_derived_b at hd
    rw [hrr, haa] at hd
    by_cases h0 : r0 < 0
    · rw [decide_eq_true h0] at hd; cases hd
    by_cases h1 : (l.rules.length : Int) ≤ r0
    · rw [decide_eq_false h0, decide_eq_true h1] at hd; cases hd
    obtain ⟨x, hx, hxm⟩ := idx_int (xs := l.rules) (i := r0) (by omega) (by omega)
    rw [decide_eq_false h0, decide_eq_false h1] at hd
    simp only [cond_false, Option.bind_some, hx] at hd
    cases hsy : x.symbol != s with
    | true => rw [hsy] at hd; cases hd
    | false =>
    rw [hsy] at hd
    simp only [cond_false] at hd
    cases har : (ts.length : Int) != (x.args.length : Int) with
    | true => rw [har] at hd; cases hd
    | false =>
    rw [har] at hd
    simp only [cond_false] at hd
    have har' : ts.length = x.args.length := by have := bne_eq_false_iff_eq.1 har; omega
    have hsy' : x.symbol = s := bne_eq_false_iff_eq.1 hsy
    cases hlp : loopN (term_derived_l1 l (Tm.mk r0 ts) (term_derived n) x) fuel 0 with
    | none => rw [hlp] at hd; cases hd
    | some o =>
    rw [hlp] at hd
    rw [Option.bind_some] at hd
    have ho : ∀ c, c ≠ 0 → (.inr c : Unit ⊕ Int) ≠ o := by
      intro c hc he
      subst he
      have : (some c : Option Int) = some 0 := hd
      injection this with this
      exact hc this
    have hst : ∀ (i : Nat) (hi : i < ts.length), ∃ c, term_derived n l (x.args[i]'(by omega)) ts[i] = some c ∧ term_derived_l1 l (Tm.mk r0 ts) (term_derived n) x (i : Int) = bif c != 0 then some (.inr (.inr c)) else some (.inl ((i + 1 : Nat) : Int)) := by
      intro i hi
      have e1 : ts[i]? = some ts[i] := List.getElem?_eq_getElem hi
      have hi2 : i < x.args.length := by omega
      have e2 : x.args[i]? = some x.args[i] := List.getElem?_eq_getElem hi2
      have b1 : decide ((i : Int) < (ts.length : Int)) = true := decide_eq_true (by omega)
      have hs := Tm.sizeL_mem (List.getElem_mem hi)
      obtain ⟨c, c1, c2⟩ := derived_both n l x.args[i] ts[i] (by omega) (by omega) hL.1
      refine ⟨c, c1, ?_⟩
      simp only [term_derived_l1, haa, b1, cond_true, idx_nat, e1, e2, Option.bind_some, c1, w64_succ (n := i) (by omega)]
    have hall : ∀ (i : Nat) (hi : i < ts.length), term_derived n l (x.args[i]'(by omega)) ts[i] = some 0 := by
      intro i hi
      have hk := loop_all ts.length (fun i => (i : Int)) o (fun i hi => by
        obtain ⟨c, c1, c2⟩ := hst i hi
        rw [c2]
        cases hc : c != 0 with
        | true => exact .inr ⟨_, rfl, ho c (bne_iff_ne.1 hc)⟩
        | false => exact .inl rfl) fuel 0 hlp i (Nat.zero_le _) hi
      obtain ⟨c, c1, c2⟩ := hst i hi
      rw [c2] at hk
      cases hc : c != 0 with
      | true => rw [hc] at hk; cases hk
      | false => rw [c1, bne_eq_false_iff_eq.1 hc]
    have hlen2 : (r0 :: (Tm.preL Tm.rule ts ++ more)).length = Tm.sizeL ts + more.length + 1 := by rw [List.length_cons, List.length_append, Tm.preL_length]
    have hz : (((r0 :: (Tm.preL Tm.rule ts ++ more)).length : Int) == 0) = false := by rw [beq_eq_false_iff_ne]; omega
    have hi0 : idx (r0 :: (Tm.preL Tm.rule ts ++ more)) 0 = some r0 := rfl
    have hcut : cutL (r0 :: (Tm.preL Tm.rule ts ++ more)) 1 ((r0 :: (Tm.preL Tm.rule ts ++ more)).length : Int) = some (Tm.preL Tm.rule ts ++ more) := cutL_drop _ 1 (by omega)
    have hB : (bif decide (0 ≤ s') then some (x.symbol != s') else some false) = some false := by
      rcases hs' with h | h
      · subst h; rw [hsy]; cases decide (0 ≤ s') <;> rfl
      · rw [decide_eq_false (by omega)]; rfl
    have hl := loop_end (step := term_builder_next_h_l1 ⟨l, r0 :: (Tm.preL Tm.rule ts ++ more)⟩ (term_builder_next_h n) x) ts.length (by omega) (fun i => ((i : Int), Tm.preL Tm.rule (ts.drop i) ++ more, ts.take i)) (.inl (more, ts)) (fun i hi => by
      have hi2 : i < x.args.length := by omega
      have e2 : x.args[i]? = some x.args[i] := List.getElem?_eq_getElem hi2
      have b1 : decide ((i : Int) < (x.args.length : Int)) = true := decide_eq_true (by omega)
      have hs := Tm.sizeL_mem (List.getElem_mem hi)
      have hdr := List.drop_eq_getElem_cons hi
      have hsd := sizeL_drop ts i
      rw [hdr] at hsd
      have hsd2 : ts[i].size + Tm.sizeL (ts.drop (i + 1)) ≤ Tm.sizeL ts := hsd
      have q := read_back n l x.args[i] x.args[i] ts[i] (Tm.preL Tm.rule (ts.drop (i + 1)) ++ more) (by rw [List.length_append, Tm.preL_length]; omega) (by omega) (by omega) hL (hall i hi) (.inl rfl)
      have hpre : Tm.preL Tm.rule (ts.drop i) ++ more = ts[i].rules ++ (Tm.preL Tm.rule (ts.drop (i + 1)) ++ more) := by
        rw [hdr, ← List.append_assoc]; rfl
      have happ : app 32 (ts.take i) [Tm.mk ts[i].rule ts[i].args] = some (ts.take (i + 1)) := by
        have hme : Tm.mk ts[i].rule ts[i].args = ts[i] := by cases ts[i]; rfl
        rw [hme, app_eq (by simp; omega), List.take_succ_eq_append_getElem hi]
      simp only [term_builder_next_h_l1, b1, cond_true, idx_nat, e2, Option.bind_some, hpre, q, Sum.elim_inl, happ, w64_succ (n := i) (by omega)]) (by
      have b1 : decide ((ts.length : Int) < (x.args.length : Int)) = false := decide_eq_false (by omega)
      simp only [term_builder_next_h_l1, b1, cond_false, List.drop_length, List.take_length]
      rfl)
    have hl' : loopN (term_builder_next_h_l1 ⟨l, r0 :: (Tm.preL Tm.rule ts ++ more)⟩ (term_builder_next_h n) x) fuel (0, Tm.preL Tm.rule ts ++ more, []) = some (.inl (more, ts)) := hl
    unfold term_builder_next_h_b
    simp only [hz, cond_false, hi0, Option.bind_some, hcut, decide_eq_false h0, decide_eq_false h1, hx, hB, hl']
    rfl
theorem check_zero (l : La) (s : Int) (t : Tm) (hl : fineL l) (ht : t.size ≤ 40) (h : term_Check l s t = some 0) : grammar_Check l = some 0 ∧ goodL l ∧ t.depth ≤ 32 ∧ term_derived fuel l s t = some 0 := by
  obtain ⟨c, c1, c2, c3⟩ := lang_both l hl
  unfold term_Check at h
  rw [c1] at h
  simp only [Option.bind_some] at h
  by_cases hc : c = 0
  · subst hc
    have hz : ((0 : Int) != 0) = false := rfl
    rw [hz] at h
    simp only [cond_false] at h
    by_cases s0 : s < 0
    · rw [decide_eq_true s0] at h; cases h
    by_cases s1 : (l.symbols.length : Int) ≤ s
    · rw [decide_eq_false s0, decide_eq_true s1] at h; cases h
    have hb : term_within fuel t 4096 = some (leftT 4096 t.size) := (budget_eq fuel t 4096 (by omega) (lt_fuel (by omega))).2
    have hs : term_shallow fuel t 32 = some (decide (t.depth ≤ 32)) := shallowT_eq fuel t 32 (by omega) (by omega) (Nat.le_of_lt (lt_fuel (by omega)))
    have hneg : decide (leftT 4096 t.size < 0) = false := decide_eq_false (by unfold leftT; split <;> omega)
    rw [decide_eq_false s0, decide_eq_false s1] at h
    simp only [cond_false, Option.bind_some, hb, hs, hneg] at h
    by_cases hd : t.depth ≤ 32
    · rw [decide_eq_true hd] at h
      simp only [Bool.not_true, cond_false] at h
      obtain ⟨d, d1, d2⟩ := derived_both fuel l s t (by omega) (Nat.le_of_lt (lt_fuel (by omega))) (c3 rfl)
      rw [d1, Option.bind_some] at h
      exact ⟨c1, fine_good hl (c3 rfl), hd, by rw [d1, h]⟩
    · rw [decide_eq_false hd] at h; cases h
  · rw [show (c != 0) = true by rw [bne_iff_ne]; exact hc] at h
    injection h with h
    exact absurd h hc
theorem law_TermReturns (l : La) (s : Int) (t : Tm) (hl : inLa l) (hs : InI64 s) (ht : True) : synthesislaw13_TermReturns l s t = some true := by
  obtain ⟨b, hb, hb2⟩ := few_spec l hl
  unfold synthesislaw13_TermReturns
  rw [hb]
  simp only [Option.bind_some]
  cases b with
  | false => simp only [Bool.not_false, cond_true, alive13, Option.bind_some]
  | true =>
    simp only [Bool.not_true, cond_false, small13, Option.bind_some]
    by_cases h40 : t.size ≤ 40
    · obtain ⟨c, c1, c2⟩ := check_both l s t (hb2 rfl) h40
      simp only [decide_eq_true h40, Bool.not_true, cond_false, c1, Option.bind_some]
      by_cases hc : c = 0
      · subst hc
        obtain ⟨g1, g2, g3, g4⟩ := check_zero l s t (hb2 rfl) h40 c1
        have hq := read_back fuel l s (-1) t [] (by simp; omega) (Nat.le_of_lt (lt_fuel (by omega))) (by omega) g2 g4 (.inr (by omega))
        rw [List.append_nil] at hq
        have hme : Tm.mk t.rule t.args = t := by cases t; rfl
        have hsh : term_shallow fuel (Tm.mk t.rule t.args) 32 = some (decide (t.depth ≤ 32)) := by
          rw [hme]; exact shallowT_eq fuel t 32 (by omega) (by omega) (Nat.le_of_lt (lt_fuel (by omega)))
        have h4 : decide ((4096 : Int) < (t.rules.length : Int)) = false := decide_eq_false (by rw [Tm.rules_length]; omega)
        have hz : ((0 : Int) != 0) = false := rfl
        have hz2 : ((0 : Int) == 0) = true := rfl
        have hz3 : decide ((0 : Int) < (([] : List Int).length : Int)) = false := rfl
        have hB : term_Build_h l t.rules = some (t.rule, t.args, 0) := by
          unfold term_Build_h
          simp only [g1, Option.bind_some, hz, cond_false, h4, hq, Sum.elim_inl, hz3, hsh, decide_eq_true g3, Bool.not_true]
        simp only [hz, cond_false, trules_eq t (by omega), hB, Option.bind_some, hz2, cond_true, hme, tcmp_self t (by omega), c1, alive13]
      · simp only [show (c != 0) = true by rw [bne_iff_ne]; exact hc, cond_true, alive13, Option.bind_some]
    · simp only [decide_eq_false h40, Bool.not_false, cond_true, alive13, Option.bind_some]
end Go.Proofs.Ytaeicmnimjfbaaa
