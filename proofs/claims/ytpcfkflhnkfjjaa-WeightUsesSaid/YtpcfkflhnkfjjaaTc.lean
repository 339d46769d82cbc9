/- Terms: sizes, rules, arities, and the order, by both texts. -/
import Derived.Test.YtpcfkflhnkfjjaaGt
set_option linter.unusedVariables false
set_option linter.unusedSimpArgs false
namespace Go.Proofs.Ytpcfkflhnkfjjaa
open Go Go.RowKit

theorem pre_mk (g : Tm → Int) (t : Tm) : t.pre g = g t :: Tm.preL g t.args := by cases t; rfl
theorem args_size {t x : Tm} (h : x ∈ t.args) : x.size < t.size := by
  have := Tm.sizeL_mem h
  have := sizeT_args (t := t)
  omega
theorem args_len (t : Tm) : t.args.length < t.size := by
  have := len_le_sizeL t.args
  have := sizeT_args (t := t)
  omega
theorem app1 {acc : List Int} {v : Int} (h : acc.length ≤ 1000000) : app 8 acc [v] = some (acc ++ [v]) := app_eq (by rw [List.length_singleton]; omega)
/-- the reference: the lists of the arguments are joined -/
theorem join_fold (g : Tm → Int) (r : Tm → Option (List Int)) : ∀ (xs : List Tm) (acc : List Int), acc.length + Tm.sizeL xs ≤ 1000000 → (∀ x ∈ xs, r x = some (x.pre g)) → xs.foldlM (fun s x => Option.bind (r x) fun v => app 8 s v) acc = some (acc ++ Tm.preL g xs)
  | [], acc, _, _ => by simp [Tm.preL]
  | x :: xs, acc, hl, h => by
    have hs : Tm.sizeL (x :: xs) = x.size + Tm.sizeL xs := rfl
    rw [List.foldlM_cons, h x (List.mem_cons_self ..), Option.bind_some, app_eq (by rw [Tm.pre_length]; omega)]
    have := join_fold g r xs (acc ++ x.pre g) (by rw [List.length_append, Tm.pre_length]; omega) fun y hy => h y (List.mem_cons_of_mem _ hy)
    show List.foldlM _ (acc ++ x.pre g) xs = _
    rw [this, List.append_assoc]
    rfl
theorem rules_ref : ∀ (n : Nat) (t : Tm), t.size ≤ n → t.size ≤ 1000 → synthesisref13_Rules n t = some t.rules
  | 0, t, h, _ => by have := Tm.size_pos t; omega
  | n + 1, t, h, hl => by
    show synthesisref13_Rules_b (synthesisref13_Rules n) t = _
    have hal := args_len t
    have hsa := sizeT_args (t := t)
    unfold synthesisref13_Rules_b
    rw [loop_acc (step := synthesisref13_Rules_l1 t (synthesisref13_Rules n)) t.args (fun s x => Option.bind (synthesisref13_Rules n x) fun v => app 8 s v) (fun i s => (i, s)) (by omega) (fun i x s hx => by
      have hi := get_lt hx
      simp only [synthesisref13_Rules_l1, lt_len hi, cond_true, idx_nat, hx, Option.bind_some, w64_succ' hi (show t.args.length ≤ 9223372036854775807 by omega)]
      cases synthesisref13_Rules n x with
      | none => rfl
      | some v => simp only [Option.bind_some]; cases app 8 s v <;> rfl) (fun s => by simp only [synthesisref13_Rules_l1, lt_len', cond_false])]
    rw [join_fold Tm.rule _ t.args _ (by rw [List.length_singleton]; omega) fun x hx => rules_ref n x (by have := args_size hx; omega) (by have := args_size hx; omega)]
    show some _ = some (t.pre Tm.rule)
    rw [pre_mk]
    rfl
theorem size_fold (r : Tm → Option Int) : ∀ (xs : List Tm) (s : Nat), s + Tm.sizeL xs ≤ 1000000 → (∀ x ∈ xs, r x = some (x.size : Int)) → xs.foldlM (fun (s : Int) x => Option.bind (r x) fun v => some (w64 (s + v))) (s : Int) = some ((s + Tm.sizeL xs : Nat) : Int)
  | [], s, _, _ => by simp [Tm.sizeL]
  | x :: xs, s, hl, h => by
    have hs : Tm.sizeL (x :: xs) = x.size + Tm.sizeL xs := rfl
    rw [List.foldlM_cons, h x (List.mem_cons_self ..), Option.bind_some, w64_eq (by omega) (by omega)]
    have := size_fold r xs (s + x.size) (by omega) fun y hy => h y (List.mem_cons_of_mem _ hy)
    show List.foldlM _ ((s : Int) + (x.size : Int)) xs = _
    rw [show (s : Int) + (x.size : Int) = ((s + x.size : Nat) : Int) by omega, this, hs]
    congr 2
    omega
theorem size_ref : ∀ (n : Nat) (t : Tm), t.size ≤ n → t.size ≤ 1000 → synthesisref13_Size n t = some (t.size : Int)
  | 0, t, h, _ => by have := Tm.size_pos t; omega
  | n + 1, t, h, hl => by
    show synthesisref13_Size_b (synthesisref13_Size n) t = _
    have hal := args_len t
    have hsa := sizeT_args (t := t)
    unfold synthesisref13_Size_b
    rw [loop_acc (step := synthesisref13_Size_l1 t (synthesisref13_Size n)) t.args (fun s x => Option.bind (synthesisref13_Size n x) fun v => some (w64 (s + v))) (fun i s => (s, i)) (by omega) (fun i x s hx => by
      have hi := get_lt hx
      simp only [synthesisref13_Size_l1, lt_len hi, cond_true, idx_nat, hx, Option.bind_some, w64_succ' hi (show t.args.length ≤ 9223372036854775807 by omega)]
      cases synthesisref13_Size n x <;> rfl) (fun s => by simp only [synthesisref13_Size_l1, lt_len', cond_false])]
    have := size_fold (synthesisref13_Size n) t.args 1 (by omega) fun x hx => size_ref n x (by have := args_size hx; omega) (by have := args_size hx; omega)
    rw [show (1 : Int) = ((1 : Nat) : Int) from rfl, this, Option.bind_some]
    congr 2
    omega
end Go.Proofs.Ytpcfkflhnkfjjaa
