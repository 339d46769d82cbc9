/- Terms by their number; the law CountingOrders. -/
import Derived.Test.YtfkddbccogakoaaKe
import Derived.Test.YtfkddbccogakoaaKf
import Derived.Test.YtfkddbccogakoaaKg
set_option linter.unusedVariables false
set_option linter.unusedSimpArgs false
namespace Go.Proofs.Ytfkddbccogakoaa
open Go Go.RowKit

theorem swapN (F : Nat → Nat → Nat) (n : Nat) : ∀ m, NS.sum (fun j => NS.sum (fun i => F i j) n) m = NS.sum (fun i => NS.sum (fun j => F i j) m) n
  | 0 => (NS.sum_zero n fun i _ => rfl).symm
  | m + 1 => by
    rw [SR.sum, swapN F n m, ← NS.sum_add]
    exact NS.sum_congr _ fun i _ => rfl
theorem VN_suc (l : La) (s : Int) (k : Nat) : VN l s (k + 1) = NS.sum (fun i => if symAt l i = s then NS.rr (VN l) (argAt l i) k else 0) l.rules.length := by
  unfold VN
  rw [NS.val_succ]
  refine NS.sum_congr _ fun i _ => ?_
  split
  · exact Nat.one_mul _
  · rfl
/-- by the first rule -/
theorem rr_head (l : La) (y : Int) (tl : List Int) (k : Nat) : NS.rr (VN l) (y :: tl) (k + 1) = ((plL l y l.rules.length).map fun i => NS.rr (VN l) (argAt l i ++ tl) k).sum := by
  rw [SR.rr, sum_plL, NS.sum_shift]
  show VN l y 0 * _ + _ = _
  rw [show VN l y 0 = 0 from rfl, Nat.zero_mul, Nat.zero_add]
  have h1 : NS.sum (fun i => NS.mul (VN l y (i + 1)) (NS.rr (VN l) tl (k + 1 - (i + 1)))) (k + 1) = NS.sum (fun j => NS.sum (fun i => (if symAt l i = y then NS.rr (VN l) (argAt l i) j else 0) * NS.rr (VN l) tl (k - j)) l.rules.length) (k + 1) := NS.sum_congr _ fun j _ => by
    rw [VN_suc, NS.sum_mul, show k + 1 - (j + 1) = k - j by omega]
    exact NS.sum_congr _ fun i _ => rfl
  rw [h1, swapN]
  refine NS.sum_congr _ fun i _ => ?_
  by_cases h : symAt l i = y
  · simp only [if_pos h]
    exact (NS.rr_append (V := VN l) (argAt l i) tl k).symm
  · simp only [if_neg h, Nat.zero_mul]
    exact NS.sum_zero _ fun j _ => rfl
end Go.Proofs.Ytfkddbccogakoaa
set_option linter.unusedVariables false
set_option linter.unusedSimpArgs false
namespace Go.Proofs.Ytfkddbccogakoaa
open Go Go.RowKit

theorem joined_eq (a b : List Int) (h : a.length + b.length ≤ 100000) : counting_joined a b = some (a ++ b) := by
  have hc : mkC 8 (w64 ((a.length : Int) + (b.length : Int))) = some () := by
    rw [w64_eq (by omega) (by omega)]
    unfold mkC
    rw [if_pos (by omega)]
  have h1 : app 8 ([] : List Int) a = some a := app_eq (by rw [List.length_nil]; omega)
  have h2 : app 8 a b = some (a ++ b) := app_eq (by omega)
  unfold counting_joined
  rw [hc, Option.bind_some, h1, Option.bind_some, h2, Option.bind_some]
theorem args_eq {l : La} {r : Ru} (hr : GoodR l r) : counting_args r = some r.args := by
  unfold counting_args
  by_cases h3 : r.kind = 3
  · rw [h3]; rfl
  · rw [show (r.kind != 3) = true by rw [bne_iff_ne]; exact h3, hr.noargs h3]; rfl
end Go.Proofs.Ytfkddbccogakoaa
set_option linter.unusedVariables false
set_option linter.unusedSimpArgs false
namespace Go.Proofs.Ytfkddbccogakoaa
open Go Go.RowKit

theorem sizeT_args {t : Tm} : t.size = Tm.sizeL t.args + 1 := by cases t; simp [Tm.size, Tm.args, Nat.add_comm]
theorem pre_mk (g : Tm → Int) (t : Tm) : t.pre g = g t :: Tm.preL g t.args := by cases t; rfl
theorem args_size {t x : Tm} (h : x ∈ t.args) : x.size < t.size := by
  have := Tm.sizeL_mem h
  have := sizeT_args (t := t)
  omega
theorem args_len (t : Tm) : t.args.length < t.size := by
  have := Tm.sizeL_len t.args
  have := sizeT_args (t := t)
  omega
theorem join_fold (g : Tm → Int) (r : Tm → Option (List Int)) : ∀ (xs : List Tm) (acc : List Int), acc.length + Tm.sizeL xs ≤ 1000000 → (∀ x ∈ xs, r x = some (x.pre g)) → xs.foldlM (fun s x => Option.bind (r x) fun v => app 8 s v) acc = some (acc ++ Tm.preL g xs)
  | [], acc, _, _ => by simp [Tm.preL]
  | x :: xs, acc, hl, h => by
    have hs : Tm.sizeL (x :: xs) = x.size + Tm.sizeL xs := rfl
    rw [List.foldlM_cons, h x (List.mem_cons_self ..), Option.bind_some, app_eq (by rw [Tm.pre_length]; omega)]
    have := join_fold g r xs (acc ++ x.pre g) (by rw [List.length_append, Tm.pre_length]; omega) fun y hy => h y (List.mem_cons_of_mem _ hy)
    show List.foldlM _ (acc ++ x.pre g) xs = _
    rw [this, List.append_assoc]
    rfl
theorem rules12 : ∀ (n : Nat) (t : Tm), t.size ≤ n → t.size ≤ 1000 → synthesisref12_Rules n t = some t.rules
  | 0, t, h, _ => by have := Tm.size_pos t; omega
  | n + 1, t, h, hl => by
    show synthesisref12_Rules_b (synthesisref12_Rules n) t = _
    have hal := args_len t
    have hsa := sizeT_args (t := t)
    unfold synthesisref12_Rules_b
    rw [loop_acc (step := synthesisref12_Rules_l1 t (synthesisref12_Rules n)) t.args (fun s x => Option.bind (synthesisref12_Rules n x) fun v => app 8 s v) (fun i s => (i, s)) (by omega) (fun i x s hx => by
      have hi := get_lt hx
      simp only [synthesisref12_Rules_l1, lt_len hi, cond_true, idx_nat, hx, Option.bind_some, w64_succ' hi (show t.args.length ≤ 9223372036854775807 by omega)]
      cases synthesisref12_Rules n x with
      | none => rfl
      | some v => simp only [Option.bind_some]; cases app 8 s v <;> rfl) (fun s => by simp only [synthesisref12_Rules_l1, lt_len', cond_false])]
    rw [join_fold Tm.rule _ t.args _ (by rw [List.length_singleton]; omega) fun x hx => rules12 n x (by have := args_size hx; omega) (by have := args_size hx; omega)]
    show some _ = some (t.pre Tm.rule)
    rw [pre_mk]
    rfl
theorem preL_app (g : Tm → Int) : ∀ a b : List Tm, Tm.preL g (a ++ b) = Tm.preL g a ++ Tm.preL g b
  | [], b => rfl
  | x :: a, b => by
    show x.pre g ++ Tm.preL g (a ++ b) = (x.pre g ++ Tm.preL g a) ++ Tm.preL g b
    rw [preL_app g a b, List.append_assoc]
theorem take_mono (f : Nat → Nat) (L : List Nat) {a b : Nat} (h : a ≤ b) : ((L.take a).map f).sum ≤ ((L.take b).map f).sum := by
  have : L.take b = L.take a ++ (L.take b).drop a := by
    conv => lhs; rw [← List.take_append_drop a (L.take b), List.take_take, Nat.min_eq_left h]
  rw [this, List.map_append, List.sum_append]
  omega
theorem plL_sorted (l : La) (s : Int) (n : Nat) : (plL l s n).Pairwise (· < ·) := List.Pairwise.filter _ List.pairwise_lt_range
theorem rr_sing (l : La) (s : Int) (k : Nat) : NS.rr (VN l) [s] k = VN l s k := (NS.rr_one _ _ _).trans (NS.mul_one _)
end Go.Proofs.Ytfkddbccogakoaa
