/- Sums over the ways to part a number: the left and the right recursion agree, in any semiring. -/
import Derived.Test.YtfkddbccogakoaaLo
set_option linter.unusedVariables false
set_option linter.unusedSimpArgs false
namespace Go.Proofs.Ytfkddbccogakoaa
open Go Go.RowKit

structure SR (R : Type) where
  add : R → R → R
  mul : R → R → R
  zero : R
  one : R
  add_assoc : ∀ a b c, add (add a b) c = add a (add b c)
  add_comm : ∀ a b, add a b = add b a
  zero_add : ∀ a, add zero a = a
  mul_assoc : ∀ a b c, mul (mul a b) c = mul a (mul b c)
  mul_comm : ∀ a b, mul a b = mul b a
  mul_add : ∀ a b c, mul a (add b c) = add (mul a b) (mul a c)
  mul_zero : ∀ a, mul a zero = zero
  mul_one : ∀ a, mul a one = a
namespace SR
variable {R : Type} (S : SR R)
theorem add_zero (a : R) : S.add a S.zero = a := by rw [S.add_comm, S.zero_add]
theorem zero_mul (a : R) : S.mul S.zero a = S.zero := by rw [S.mul_comm, S.mul_zero]
theorem one_mul (a : R) : S.mul S.one a = a := by rw [S.mul_comm, S.mul_one]
theorem add_mul (a b c : R) : S.mul (S.add a b) c = S.add (S.mul a c) (S.mul b c) := by rw [S.mul_comm, S.mul_add, S.mul_comm c, S.mul_comm c]
theorem add4 (a b c d : R) : S.add (S.add a b) (S.add c d) = S.add (S.add a c) (S.add b d) := by
  rw [S.add_assoc, ← S.add_assoc b, S.add_comm b c, S.add_assoc c, ← S.add_assoc a]
def sum (f : Nat → R) : Nat → R
  | 0 => S.zero
  | n + 1 => S.add (sum f n) (f n)
theorem sum_congr {f g : Nat → R} : ∀ (n : Nat), (∀ i, i < n → f i = g i) → S.sum f n = S.sum g n
  | 0, _ => rfl
  | n + 1, h => by rw [sum, sum, sum_congr n fun i hi => h i (by omega), h n (by omega)]
theorem sum_zero {f : Nat → R} : ∀ (n : Nat), (∀ i, i < n → f i = S.zero) → S.sum f n = S.zero
  | 0, _ => rfl
  | n + 1, h => by rw [sum, sum_zero n fun i hi => h i (by omega), h n (by omega), S.zero_add]
theorem sum_add (f g : Nat → R) : ∀ n, S.sum (fun i => S.add (f i) (g i)) n = S.add (S.sum f n) (S.sum g n)
  | 0 => (S.zero_add _).symm
  | n + 1 => by rw [sum, sum, sum, sum_add f g n, S.add4]
theorem mul_sum (c : R) (f : Nat → R) : ∀ n, S.mul c (S.sum f n) = S.sum (fun i => S.mul c (f i)) n
  | 0 => S.mul_zero c
  | n + 1 => by rw [sum, sum, S.mul_add, mul_sum c f n]
theorem sum_mul (c : R) (f : Nat → R) : ∀ n, S.mul (S.sum f n) c = S.sum (fun i => S.mul (f i) c) n
  | 0 => S.zero_mul c
  | n + 1 => by rw [sum, sum, S.add_mul, sum_mul c f n]
theorem tri (F : Nat → Nat → R) : ∀ n, S.sum (fun j => S.sum (fun i => F i (j - i)) (j + 1)) n = S.sum (fun i => S.sum (fun k => F i k) (n - i)) n
  | 0 => rfl
  | n + 1 => by
    rw [sum, tri F n]
    have h : S.sum (fun i => S.sum (fun k => F i k) (n + 1 - i)) (n + 1) = S.sum (fun i => S.add (S.sum (fun k => F i k) (n - i)) (F i (n - i))) (n + 1) := S.sum_congr _ fun i hi => by
      rw [show n + 1 - i = (n - i) + 1 by omega, sum]
    rw [h, S.sum_add]
    congr 1
    rw [sum, Nat.sub_self, sum, S.add_zero]
/-- lists of terms of these symbols, of this size in all: from the right -/
def rr (V : Int → Nat → R) : List Int → Nat → R
  | [], n => if n = 0 then S.one else S.zero
  | a :: ys, n => S.sum (fun k => S.mul (V a k) (rr V ys (n - k))) (n + 1)
def conv (f g : Nat → R) (n : Nat) : R := S.sum (fun i => S.mul (f i) (g (n - i))) (n + 1)
/-- the same from the left -/
def lf (V : Int → Nat → R) (f : Nat → R) : List Int → Nat → R
  | [] => f
  | a :: ys => lf V (S.conv f (V a)) ys
theorem lf_eq (V : Int → Nat → R) : ∀ (ys : List Int) (f : Nat → R) (n : Nat), S.lf V f ys n = S.sum (fun i => S.mul (f i) (S.rr V ys (n - i))) (n + 1)
  | [], f, n => by
    rw [lf, sum, S.sum_zero n fun i hi => by rw [rr, if_neg (by omega), S.mul_zero], S.zero_add, Nat.sub_self, rr, if_pos rfl, S.mul_one]
  | a :: ys, f, n => by
    rw [lf, lf_eq V ys]
    have h1 : S.sum (fun j => S.mul (S.conv f (V a) j) (S.rr V ys (n - j))) (n + 1) = S.sum (fun j => S.sum (fun i => S.mul (f i) (S.mul (V a (j - i)) (S.rr V ys (n - i - (j - i))))) (j + 1)) (n + 1) := S.sum_congr _ fun j hj => by
      unfold conv
      rw [S.sum_mul]
      exact S.sum_congr _ fun i hi => by rw [S.mul_assoc, show n - i - (j - i) = n - j by omega]
    rw [h1, S.tri (fun i k => S.mul (f i) (S.mul (V a k) (S.rr V ys (n - i - k)))) (n + 1)]
    refine S.sum_congr _ fun i hi => ?_
    rw [← S.mul_sum, rr, show n + 1 - i = n - i + 1 by omega]
def dlt (n : Nat) : R := if n = 0 then S.one else S.zero
theorem lf_dlt (V : Int → Nat → R) (ys : List Int) (n : Nat) : S.lf V S.dlt ys n = S.rr V ys n := by
  rw [S.lf_eq]
  have : ∀ m, S.sum (fun i => S.mul (S.dlt i) (S.rr V ys (n - i))) (m + 1) = S.rr V ys n := fun m => by
    induction m with
    | zero => rw [sum, sum, S.zero_add]; show S.mul (S.dlt 0) _ = _; rw [show S.dlt 0 = S.one from rfl, S.one_mul, Nat.sub_zero]
    | succ m ih => rw [sum, ih, show S.dlt (m + 1) = S.zero from rfl, S.zero_mul, S.add_zero]
  exact this n
theorem rr_congr {V V' : Int → Nat → R} : ∀ (ys : List Int) (n : Nat), (∀ a ∈ ys, ∀ k, k ≤ n → V a k = V' a k) → S.rr V ys n = S.rr V' ys n
  | [], n, _ => rfl
  | a :: ys, n, h => by
    rw [rr, rr]
    refine S.sum_congr _ fun k hk => ?_
    rw [h a (List.mem_cons_self ..) k (by omega), rr_congr ys (n - k) fun b hb j hj => h b (List.mem_cons_of_mem _ hb) j (by omega)]
/-- too small for so many -/
theorem rr_small {V : Int → Nat → R} (h0 : ∀ a, V a 0 = S.zero) : ∀ (ys : List Int) (n : Nat), n < ys.length → S.rr V ys n = S.zero
  | [], n, h => by simp at h
  | a :: ys, n, h => by
    rw [List.length_cons] at h
    rw [rr]
    refine S.sum_zero _ fun k hk => ?_
    by_cases h1 : k = 0
    · rw [h1, h0, S.zero_mul]
    · rw [rr_small h0 ys (n - k) (by omega), S.mul_zero]
theorem rr_append {V : Int → Nat → R} (xs ys : List Int) (n : Nat) : S.rr V (xs ++ ys) n = S.sum (fun i => S.mul (S.rr V xs i) (S.rr V ys (n - i))) (n + 1) := by
  have h : ∀ (xs : List Int) (f : Nat → R), S.lf V f (xs ++ ys) = S.lf V (S.lf V f xs) ys := fun xs => by
    induction xs with
    | nil => intro f; rfl
    | cons x xs ih => intro f; exact ih _
  rw [← S.lf_dlt, h, S.lf_eq]
  exact S.sum_congr _ fun i _ => by rw [S.lf_dlt]
theorem rr_one (V : Int → Nat → R) (a : Int) (n : Nat) : S.rr V [a] n = S.mul (V a n) S.one := by
  rw [rr, sum, S.sum_zero n fun i hi => by rw [rr, if_neg (by omega), S.mul_zero], S.zero_add, Nat.sub_self, rr, if_pos rfl]
theorem sum_shift (f : Nat → R) : ∀ n, S.sum f (n + 1) = S.add (f 0) (S.sum (fun i => f (i + 1)) n)
  | 0 => by rw [sum, sum, sum, S.zero_add, S.add_zero]
  | n + 1 => by rw [sum, sum_shift f n, sum, S.add_assoc]
theorem sum_trunc {f : Nat → R} {m : Nat} : ∀ n, m ≤ n → (∀ i, m ≤ i → i < n → f i = S.zero) → S.sum f n = S.sum f m
  | 0, h, _ => by rw [show m = 0 by omega]
  | n + 1, h, hz => by
    by_cases hm : m = n + 1
    · rw [hm]
    · rw [sum, hz n (by omega) (by omega), S.add_zero]
      exact sum_trunc n (by omega) fun i h1 h2 => hz i h1 (by omega)
/-- the values of the symbols, size by size -/
def tab (N : Nat) (sy : Nat → Int) (ar : Nat → List Int) (wt : Nat → R) : Nat → Int → Nat → R
  | 0 => fun _ _ => S.zero
  | n + 1 => fun s k => if k = n + 1 then S.sum (fun i => if sy i = s then S.mul (wt i) (S.rr (tab N sy ar wt n) (ar i) n) else S.zero) N else tab N sy ar wt n s k
def val (N : Nat) (sy : Nat → Int) (ar : Nat → List Int) (wt : Nat → R) (s : Int) (k : Nat) : R := S.tab N sy ar wt k s k
theorem tab_eq (N : Nat) (sy : Nat → Int) (ar : Nat → List Int) (wt : Nat → R) (s : Int) : ∀ (n k : Nat), S.tab N sy ar wt n s k = if k ≤ n then S.val N sy ar wt s k else S.zero
  | 0, k => by
    unfold val
    by_cases h : k = 0
    · subst h; rw [if_pos (by omega)]
    · rw [if_neg (by omega), tab]
  | n + 1, k => by
    by_cases h : k = n + 1
    · subst h; rw [if_pos (by omega)]; rfl
    · show (if k = n + 1 then _ else S.tab N sy ar wt n s k) = _
      rw [if_neg h, tab_eq N sy ar wt s n k]
      by_cases h2 : k ≤ n
      · rw [if_pos h2, if_pos (by omega)]
      · rw [if_neg h2, if_neg (by omega)]
theorem val_succ (N : Nat) (sy : Nat → Int) (ar : Nat → List Int) (wt : Nat → R) (s : Int) (n : Nat) : S.val N sy ar wt s (n + 1) = S.sum (fun i => if sy i = s then S.mul (wt i) (S.rr (S.val N sy ar wt) (ar i) n) else S.zero) N := by
  unfold val
  show (if n + 1 = n + 1 then _ else _) = _
  rw [if_pos rfl]
  refine S.sum_congr _ fun i hi => ?_
  split
  · congr 1
    exact S.rr_congr _ _ fun a _ k hk => by rw [S.tab_eq, if_pos hk]; rfl
  · rfl
end SR
end Go.Proofs.Ytfkddbccogakoaa
