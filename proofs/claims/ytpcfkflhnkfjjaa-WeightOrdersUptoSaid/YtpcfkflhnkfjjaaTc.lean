/- Terms: sizes, rules, arities, and the order, by both texts. -/
import Derived.Test.YtpcfkflhnkfjjaaGt
set_option linter.unusedVariables false
set_option linter.unusedSimpArgs false
namespace Go.Proofs.Ytpcfkflhnkfjjaa
open Go Go.RowKit

theorem pre_mk (g : Tm → Int) (t : Tm) : t.pre g = g t :: Tm.preL g t.args := by cases t; rfl
theorem args_size {t x : Tm} (h : x ∈ t.args) : x.size < t.size := by
  have := Tm.sizeL_mem h
  have := sizeT_args (t := t)
  omega
theorem args_len (t : Tm) : t.args.length < t.size := by
  have := len_le_sizeL t.args
  have := sizeT_args (t := t)
  omega
/-- rules or arities are collected -/
theorem coll_fold (g : Tm → Int) (r : List Int → Tm → Option (List Int)) : ∀ (xs : List Tm) (acc : List Int), acc.length + Tm.sizeL xs ≤ 1000000 → (∀ x ∈ xs, ∀ acc : List Int, acc.length + x.size ≤ 1000000 → r acc x = some (acc ++ x.pre g)) → xs.foldlM r acc = some (acc ++ Tm.preL g xs)
  | [], acc, _, _ => by simp [Tm.preL]
  | x :: xs, acc, hl, h => by
    have hs : Tm.sizeL (x :: xs) = x.size + Tm.sizeL xs := rfl
    rw [List.foldlM_cons, h x (List.mem_cons_self ..) acc (by omega)]
    have := coll_fold g r xs (acc ++ x.pre g) (by rw [List.length_append, Tm.pre_length]; omega) fun y hy => h y (List.mem_cons_of_mem _ hy)
    show List.foldlM r (acc ++ x.pre g) xs = _
    rw [this, List.append_assoc]
    rfl
theorem app1 {acc : List Int} {v : Int} (h : acc.length ≤ 1000000) : app 8 acc [v] = some (acc ++ [v]) := app_eq (by rw [List.length_singleton]; omega)
theorem collect2 : ∀ (n : Nat) (t : Tm) (acc : List Int), t.size ≤ n → acc.length + t.size ≤ 1000000 → term_collect_h2 n acc t = some (acc ++ t.rules)
  | 0, t, acc, h, _ => by have := Tm.size_pos t; omega
  | n + 1, t, acc, h, hl => by
    show term_collect_h2_b (term_collect_h2 n) acc t = _
    have hal := args_len t
    have hsa := sizeT_args (t := t)
    unfold term_collect_h2_b term_Rules_1_h
    rw [Option.bind_some, app1 (by omega), Option.bind_some]
    rw [loop_acc (step := term_collect_h2_l1 t (term_collect_h2 n)) t.args (term_collect_h2 n) (fun i s => (i, s)) (by omega) (fun i x s hx => by
      have hi := get_lt hx
      simp only [term_collect_h2_l1, lt_len hi, cond_true, idx_nat, hx, Option.bind_some, w64_succ' hi (show t.args.length ≤ 9223372036854775807 by omega)]
      cases term_collect_h2 n s x <;> rfl) (fun s => by simp only [term_collect_h2_l1, lt_len', cond_false])]
    rw [coll_fold Tm.rule _ t.args _ (by rw [List.length_append, List.length_singleton]; omega) fun x hx acc hacc => collect2 n x acc (by have := args_size hx; omega) hacc]
    show some _ = some _
    rw [List.append_assoc]
    show _ = some (acc ++ t.pre Tm.rule)
    rw [pre_mk]
    rfl
theorem rules_prog (t : Tm) (h : t.size ≤ 1000) : term_Rules t = some t.rules := by
  have hal := args_len t
  have hsa := sizeT_args (t := t)
  unfold term_Rules term_Rules_1_h
  rw [Option.bind_some, app1 (by simp), Option.bind_some]
  rw [loop_acc (step := term_Rules_l1 t) t.args (term_collect_h2 fuel) (fun i s => (i, s)) (by omega) (fun i x s hx => by
    have hi := get_lt hx
    simp only [term_Rules_l1, lt_len hi, cond_true, idx_nat, hx, Option.bind_some, w64_succ' hi (show t.args.length ≤ 9223372036854775807 by omega)]
    cases term_collect_h2 fuel s x <;> rfl) (fun s => by simp only [term_Rules_l1, lt_len', cond_false])]
  rw [coll_fold Tm.rule _ t.args _ (by rw [List.nil_append, List.length_singleton]; omega) fun x hx acc hacc => collect2 fuel x acc (Nat.le_of_lt (lt_fuel (by omega))) hacc]
  show some _ = some (t.pre Tm.rule)
  rw [pre_mk]
  rfl
theorem collect4 : ∀ (n : Nat) (t : Tm) (acc : List Int), t.size ≤ n → acc.length + t.size ≤ 1000000 → term_collect_h4 n acc t = some (acc ++ t.arities)
  | 0, t, acc, h, _ => by have := Tm.size_pos t; omega
  | n + 1, t, acc, h, hl => by
    show term_collect_h4_b (term_collect_h4 n) acc t = _
    have hal := args_len t
    have hsa := sizeT_args (t := t)
    unfold term_collect_h4_b term_Compare_1_h
    rw [Option.bind_some, app1 (by omega), Option.bind_some]
    rw [loop_acc (step := term_collect_h4_l1 t (term_collect_h4 n)) t.args (term_collect_h4 n) (fun i s => (i, s)) (by omega) (fun i x s hx => by
      have hi := get_lt hx
      simp only [term_collect_h4_l1, lt_len hi, cond_true, idx_nat, hx, Option.bind_some, w64_succ' hi (show t.args.length ≤ 9223372036854775807 by omega)]
      cases term_collect_h4 n s x <;> rfl) (fun s => by simp only [term_collect_h4_l1, lt_len', cond_false])]
    rw [coll_fold Tm.nargs _ t.args _ (by rw [List.length_append, List.length_singleton]; omega) fun x hx acc hacc => collect4 n x acc (by have := args_size hx; omega) hacc]
    show some _ = some _
    rw [List.append_assoc]
    show _ = some (acc ++ t.pre Tm.nargs)
    rw [pre_mk]
    rfl
theorem arities_prog (t : Tm) (h : t.size ≤ 1000) : term_collect_h3 t = some t.arities := by
  have hal := args_len t
  have hsa := sizeT_args (t := t)
  unfold term_collect_h3 term_Compare_1_h
  rw [Option.bind_some, app1 (by simp), Option.bind_some]
  rw [loop_acc (step := term_collect_h3_l1 t) t.args (term_collect_h4 fuel) (fun i s => (i, s)) (by omega) (fun i x s hx => by
    have hi := get_lt hx
    simp only [term_collect_h3_l1, lt_len hi, cond_true, idx_nat, hx, Option.bind_some, w64_succ' hi (show t.args.length ≤ 9223372036854775807 by omega)]
    cases term_collect_h4 fuel s x <;> rfl) (fun s => by simp only [term_collect_h3_l1, lt_len', cond_false])]
  rw [coll_fold Tm.nargs _ t.args _ (by rw [List.nil_append, List.length_singleton]; omega) fun x hx acc hacc => collect4 fuel x acc (Nat.le_of_lt (lt_fuel (by omega))) hacc]
  show some _ = some (t.pre Tm.nargs)
  rw [pre_mk]
  rfl
theorem arities_prog2 (t : Tm) (h : t.size ≤ 1000) : loopN (term_Compare_l1 t) fuel (0, ([] : List Int) ++ [(t.args.length : Int)]) = some t.arities := by
  have hal := args_len t
  have hsa := sizeT_args (t := t)
  rw [loop_acc (step := term_Compare_l1 t) t.args (term_collect_h4 fuel) (fun i s => (i, s)) (by omega) (fun i x s hx => by
    have hi := get_lt hx
    simp only [term_Compare_l1, lt_len hi, cond_true, idx_nat, hx, Option.bind_some, w64_succ' hi (show t.args.length ≤ 9223372036854775807 by omega)]
    cases term_collect_h4 fuel s x <;> rfl) (fun s => by simp only [term_Compare_l1, lt_len', cond_false])]
  rw [coll_fold Tm.nargs _ t.args _ (by rw [List.nil_append, List.length_singleton]; omega) fun x hx acc hacc => collect4 fuel x acc (Nat.le_of_lt (lt_fuel (by omega))) hacc]
  show some _ = some (t.pre Tm.nargs)
  rw [pre_mk]
  rfl
/-- the reference: the lists of the arguments are joined -/
theorem join_fold (g : Tm → Int) (r : Tm → Option (List Int)) : ∀ (xs : List Tm) (acc : List Int), acc.length + Tm.sizeL xs ≤ 1000000 → (∀ x ∈ xs, r x = some (x.pre g)) → xs.foldlM (fun s x => Option.bind (r x) fun v => app 8 s v) acc = some (acc ++ Tm.preL g xs)
  | [], acc, _, _ => by simp [Tm.preL]
  | x :: xs, acc, hl, h => by
    have hs : Tm.sizeL (x :: xs) = x.size + Tm.sizeL xs := rfl
    rw [List.foldlM_cons, h x (List.mem_cons_self ..), Option.bind_some, app_eq (by rw [Tm.pre_length]; omega)]
    have := join_fold g r xs (acc ++ x.pre g) (by rw [List.length_append, Tm.pre_length]; omega) fun y hy => h y (List.mem_cons_of_mem _ hy)
    show List.foldlM _ (acc ++ x.pre g) xs = _
    rw [this, List.append_assoc]
    rfl
theorem rules_ref : ∀ (n : Nat) (t : Tm), t.size ≤ n → t.size ≤ 1000 → synthesisref13_Rules n t = some t.rules
  | 0, t, h, _ => by have := Tm.size_pos t; omega
  | n + 1, t, h, hl => by
    show synthesisref13_Rules_b (synthesisref13_Rules n) t = _
    have hal := args_len t
    have hsa := sizeT_args (t := t)
    unfold synthesisref13_Rules_b
    rw [loop_acc (step := synthesisref13_Rules_l1 t (synthesisref13_Rules n)) t.args (fun s x => Option.bind (synthesisref13_Rules n x) fun v => app 8 s v) (fun i s => (i, s)) (by omega) (fun i x s hx => by
      have hi := get_lt hx
      simp only [synthesisref13_Rules_l1, lt_len hi, cond_true, idx_nat, hx, Option.bind_some, w64_succ' hi (show t.args.length ≤ 9223372036854775807 by omega)]
      cases synthesisref13_Rules n x with
      | none => rfl
      | some v => simp only [Option.bind_some]; cases app 8 s v <;> rfl) (fun s => by simp only [synthesisref13_Rules_l1, lt_len', cond_false])]
    rw [join_fold Tm.rule _ t.args _ (by rw [List.length_singleton]; omega) fun x hx => rules_ref n x (by have := args_size hx; omega) (by have := args_size hx; omega)]
    show some _ = some (t.pre Tm.rule)
    rw [pre_mk]
    rfl
theorem arities_ref : ∀ (n : Nat) (t : Tm), t.size ≤ n → t.size ≤ 1000 → synthesisref13_arities n t = some t.arities
  | 0, t, h, _ => by have := Tm.size_pos t; omega
  | n + 1, t, h, hl => by
    show synthesisref13_arities_b (synthesisref13_arities n) t = _
    have hal := args_len t
    have hsa := sizeT_args (t := t)
    unfold synthesisref13_arities_b
    rw [loop_acc (step := synthesisref13_arities_l1 t (synthesisref13_arities n)) t.args (fun s x => Option.bind (synthesisref13_arities n x) fun v => app 8 s v) (fun i s => (i, s)) (by omega) (fun i x s hx => by
      have hi := get_lt hx
      simp only [synthesisref13_arities_l1, lt_len hi, cond_true, idx_nat, hx, Option.bind_some, w64_succ' hi (show t.args.length ≤ 9223372036854775807 by omega)]
      cases synthesisref13_arities n x with
      | none => rfl
      | some v => simp only [Option.bind_some]; cases app 8 s v <;> rfl) (fun s => by simp only [synthesisref13_arities_l1, lt_len', cond_false])]
    rw [join_fold Tm.nargs _ t.args _ (by rw [List.length_singleton]; omega) fun x hx => arities_ref n x (by have := args_size hx; omega) (by have := args_size hx; omega)]
    show some _ = some (t.pre Tm.nargs)
    rw [pre_mk]
    rfl
theorem size_fold (r : Tm → Option Int) : ∀ (xs : List Tm) (s : Nat), s + Tm.sizeL xs ≤ 1000000 → (∀ x ∈ xs, r x = some (x.size : Int)) → xs.foldlM (fun (s : Int) x => Option.bind (r x) fun v => some (w64 (s + v))) (s : Int) = some ((s + Tm.sizeL xs : Nat) : Int)
  | [], s, _, _ => by simp [Tm.sizeL]
  | x :: xs, s, hl, h => by
    have hs : Tm.sizeL (x :: xs) = x.size + Tm.sizeL xs := rfl
    rw [List.foldlM_cons, h x (List.mem_cons_self ..), Option.bind_some, w64_eq (by omega) (by omega)]
    have := size_fold r xs (s + x.size) (by omega) fun y hy => h y (List.mem_cons_of_mem _ hy)
    show List.foldlM _ ((s : Int) + (x.size : Int)) xs = _
    rw [show (s : Int) + (x.size : Int) = ((s + x.size : Nat) : Int) by omega, this, hs]
    congr 2
    omega
theorem size_prog : ∀ (n : Nat) (t : Tm), t.size ≤ n → t.size ≤ 1000 → term_Size n t = some (t.size : Int)
  | 0, t, h, _ => by have := Tm.size_pos t; omega
  | n + 1, t, h, hl => by
    show term_Size_b (term_Size n) t = _
    have hal := args_len t
    have hsa := sizeT_args (t := t)
    unfold term_Size_b
    rw [loop_acc (step := term_Size_l1 t (term_Size n)) t.args (fun s x => Option.bind (term_Size n x) fun v => some (w64 (s + v))) (fun i s => (s, i)) (by omega) (fun i x s hx => by
      have hi := get_lt hx
      simp only [term_Size_l1, lt_len hi, cond_true, idx_nat, hx, Option.bind_some, w64_succ' hi (show t.args.length ≤ 9223372036854775807 by omega)]
      cases term_Size n x <;> rfl) (fun s => by simp only [term_Size_l1, lt_len', cond_false])]
    have := size_fold (term_Size n) t.args 1 (by omega) fun x hx => size_prog n x (by have := args_size hx; omega) (by have := args_size hx; omega)
    rw [show (1 : Int) = ((1 : Nat) : Int) from rfl, this, Option.bind_some]
    congr 2
    omega
theorem size_ref : ∀ (n : Nat) (t : Tm), t.size ≤ n → t.size ≤ 1000 → synthesisref13_Size n t = some (t.size : Int)
  | 0, t, h, _ => by have := Tm.size_pos t; omega
  | n + 1, t, h, hl => by
    show synthesisref13_Size_b (synthesisref13_Size n) t = _
    have hal := args_len t
    have hsa := sizeT_args (t := t)
    unfold synthesisref13_Size_b
    rw [loop_acc (step := synthesisref13_Size_l1 t (synthesisref13_Size n)) t.args (fun s x => Option.bind (synthesisref13_Size n x) fun v => some (w64 (s + v))) (fun i s => (s, i)) (by omega) (fun i x s hx => by
      have hi := get_lt hx
      simp only [synthesisref13_Size_l1, lt_len hi, cond_true, idx_nat, hx, Option.bind_some, w64_succ' hi (show t.args.length ≤ 9223372036854775807 by omega)]
      cases synthesisref13_Size n x <;> rfl) (fun s => by simp only [synthesisref13_Size_l1, lt_len', cond_false])]
    have := size_fold (synthesisref13_Size n) t.args 1 (by omega) fun x hx => size_ref n x (by have := args_size hx; omega) (by have := args_size hx; omega)
    rw [show (1 : Int) = ((1 : Nat) : Int) from rfl, this, Option.bind_some]
    congr 2
    omega
/-- the order of lists of one length -/
def lexC : List Int → List Int → Int
  | x :: xs, y :: ys => if x < y then -1 else if y < x then 1 else lexC xs ys
  | _, _ => 0
def lexO : List Int → List Int → Unit ⊕ Int
  | x :: xs, y :: ys => if x < y then .inr (-1) else if y < x then .inr 1 else lexO xs ys
  | _, _ => .inl ()
theorem lexO_eq : ∀ xs ys : List Int, Sum.elim (fun _ => 0) id (lexO xs ys) = lexC xs ys
  | [], _ => rfl
  | _ :: _, [] => rfl
  | x :: xs, y :: ys => by
    simp only [lexO, lexC]
    split
    · rfl
    · split
      · rfl
      · exact lexO_eq xs ys
theorem lex_prog (x y : List Int) (hl : x.length = y.length) (hx : x.length ≤ 1000000) : term_lexical x y = some (lexC x y) := by
  unfold term_lexical
  have h := loop_fuel (step := term_lexical_l1 x y) x.length (by omega) (fun i => (i : Int)) (fun i => lexO (x.drop i) (y.drop i)) (fun i hi => by
    have hy : i < y.length := by omega
    simp only [term_lexical_l1, lt_len hi, cond_true, idx_nat, List.getElem?_eq_getElem hi, List.getElem?_eq_getElem hy, Option.bind_some, w64_succ' hi (show x.length ≤ 9223372036854775807 by omega), List.drop_eq_getElem_cons hi, List.drop_eq_getElem_cons hy, lexO]
    by_cases h1 : x[i] < y[i]
    · rw [decide_eq_true h1, if_pos h1]; exact .inr rfl
    · rw [decide_eq_false h1, if_neg h1]
      by_cases h2 : y[i] < x[i]
      · rw [decide_eq_true h2, if_pos h2]; exact .inr rfl
      · rw [decide_eq_false h2, if_neg h2]; exact .inl ⟨rfl, rfl⟩) (by
    simp only [term_lexical_l1, lt_len', cond_false, List.drop_length, lexO])
  have h' : loopN (term_lexical_l1 x y) fuel 0 = some (lexO x y) := by simpa using h
  rw [h', Option.bind_some, ← lexO_eq]
  cases lexO x y <;> rfl
theorem lex_ref (x y : List Int) (hl : x.length = y.length) (hx : x.length ≤ 1000000) : synthesisref13_CompareInts x y = some (lexC x y) := by
  unfold synthesisref13_CompareInts
  have h := loop_fuel (step := synthesisref13_CompareInts_l1 x y) x.length (by omega) (fun i => (i : Int)) (fun i => lexO (x.drop i) (y.drop i)) (fun i hi => by
    have hy : i < y.length := by omega
    simp only [synthesisref13_CompareInts_l1, lt_len hi, lt_len hy, cond_true, idx_nat, List.getElem?_eq_getElem hi, List.getElem?_eq_getElem hy, Option.bind_some, w64_succ' hi (show x.length ≤ 9223372036854775807 by omega), List.drop_eq_getElem_cons hi, List.drop_eq_getElem_cons hy, lexO]
    by_cases h1 : x[i] < y[i]
    · rw [decide_eq_true h1, if_pos h1]; exact .inr rfl
    · rw [decide_eq_false h1, if_neg h1]
      by_cases h2 : y[i] < x[i]
      · rw [decide_eq_true h2, if_pos h2]; exact .inr rfl
      · rw [decide_eq_false h2, if_neg h2]; exact .inl ⟨rfl, rfl⟩) (by
    simp only [synthesisref13_CompareInts_l1, lt_len', cond_false, List.drop_length, lexO, Option.bind_some])
  have h' : loopN (synthesisref13_CompareInts_l1 x y) fuel 0 = some (lexO x y) := by simpa using h
  rw [h', Option.bind_some, ← lexO_eq]
  cases lexO x y with
  | inr c => rfl
  | inl u =>
    simp only [Sum.elim_inl]
    unfold synthesisref13_order
    have e1 : decide ((x.length : Int) < (y.length : Int)) = false := decide_eq_false (by omega)
    have e2 : decide ((y.length : Int) < (x.length : Int)) = false := decide_eq_false (by omega)
    simp [e1, e2, hl]
/-- the order of terms -/
def cmpT (a b : Tm) : Int := if a.size < b.size then -1 else if b.size < a.size then 1 else if lexC a.rules b.rules ≠ 0 then lexC a.rules b.rules else lexC a.arities b.arities
theorem cmp_prog (a b : Tm) (ha : a.size ≤ 1000) (hb : b.size ≤ 1000) : term_Compare a b = some (cmpT a b) := by
  unfold term_Compare cmpT
  rw [size_prog fuel a (Nat.le_of_lt (lt_fuel (by omega))) ha, size_prog fuel b (Nat.le_of_lt (lt_fuel (by omega))) hb]
  simp only [Option.bind_some]
  by_cases h1 : a.size < b.size
  · rw [if_pos h1, decide_eq_true (show (a.size : Int) < (b.size : Int) by omega), cond_true]
  rw [if_neg h1, decide_eq_false (show ¬ (a.size : Int) < (b.size : Int) by omega), cond_false]
  by_cases h2 : b.size < a.size
  · rw [if_pos h2, decide_eq_true (show (b.size : Int) < (a.size : Int) by omega), cond_true]
  rw [if_neg h2, decide_eq_false (show ¬ (b.size : Int) < (a.size : Int) by omega), cond_false]
  rw [rules_prog a ha, rules_prog b hb]
  simp only [Option.bind_some]
  rw [lex_prog a.rules b.rules (by rw [Tm.rules_length, Tm.rules_length]; omega) (by rw [Tm.rules_length]; omega), Option.bind_some]
  by_cases h3 : lexC a.rules b.rules = 0
  · rw [if_neg (by simpa using h3), h3, show ((0 : Int) != 0) = false from rfl, cond_false, arities_prog a ha, Option.bind_some, show term_Compare_1_h b = some () from rfl, Option.bind_some, app1 (Nat.zero_le _), Option.bind_some, arities_prog2 b hb, Option.bind_some, lex_prog a.arities b.arities (by rw [Tm.arities_length, Tm.arities_length]; omega) (by rw [Tm.arities_length]; omega)]
    rw [Option.bind_some]
  · rw [if_pos h3, show (lexC a.rules b.rules != 0) = true by rw [bne_iff_ne]; exact h3, cond_true]
theorem cmp_ref (a b : Tm) (ha : a.size ≤ 1000) (hb : b.size ≤ 1000) : synthesisref13_Compare a b = some (cmpT a b) := by
  unfold synthesisref13_Compare cmpT
  rw [size_ref fuel a (Nat.le_of_lt (lt_fuel (by omega))) ha, size_ref fuel b (Nat.le_of_lt (lt_fuel (by omega))) hb]
  simp only [Option.bind_some, synthesisref13_order]
  by_cases h1 : a.size < b.size
  · rw [if_pos h1, decide_eq_true (show (a.size : Int) < (b.size : Int) by omega)]; rfl
  rw [if_neg h1, decide_eq_false (show ¬ (a.size : Int) < (b.size : Int) by omega)]
  by_cases h2 : b.size < a.size
  · rw [if_pos h2, decide_eq_true (show (b.size : Int) < (a.size : Int) by omega)]; rfl
  rw [if_neg h2, decide_eq_false (show ¬ (b.size : Int) < (a.size : Int) by omega)]
  simp only [cond_false, Option.bind_some, show ((0 : Int) != 0) = false from rfl]
  rw [rules_ref fuel a (Nat.le_of_lt (lt_fuel (by omega))) ha, rules_ref fuel b (Nat.le_of_lt (lt_fuel (by omega))) hb]
  simp only [Option.bind_some]
  rw [lex_ref a.rules b.rules (by rw [Tm.rules_length, Tm.rules_length]; omega) (by rw [Tm.rules_length]; omega), Option.bind_some]
  by_cases h3 : lexC a.rules b.rules = 0
  · rw [if_neg (by simpa using h3), h3, show ((0 : Int) != 0) = false from rfl, cond_false]
    rw [arities_ref fuel a (Nat.le_of_lt (lt_fuel (by omega))) ha, arities_ref fuel b (Nat.le_of_lt (lt_fuel (by omega))) hb]
    simp only [Option.bind_some]
    rw [lex_ref a.arities b.arities (by rw [Tm.arities_length, Tm.arities_length]; omega) (by rw [Tm.arities_length]; omega)]
    rfl
  · rw [if_pos h3, show (lexC a.rules b.rules != 0) = true by rw [bne_iff_ne]; exact h3]
    rfl
end Go.Proofs.Ytpcfkflhnkfjjaa
