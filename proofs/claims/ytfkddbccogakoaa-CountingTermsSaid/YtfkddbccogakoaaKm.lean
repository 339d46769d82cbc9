/- Index of a term of a symbol; the law CountingBijects. -/
import Derived.Test.YtfkddbccogakoaaKj
set_option linter.unusedVariables false
set_option linter.unusedSimpArgs false
namespace Go.Proofs.Ytfkddbccogakoaa
open Go Go.RowKit

mutual
/-- a term of a symbol -/
def isT (l : La) : Tm → Int → Bool
  | .mk r xs, s => (decide (0 ≤ r) && (decide (r < (l.rules.length : Int)) && symAt l r.toNat == s)) && isL l xs (argAt l r.toNat)
def isL (l : La) : List Tm → List Int → Bool
  | [], [] => true
  | x :: xs, a :: ys => isT l x a && isL l xs ys
  | [], _ :: _ => false
  | _ :: _, [] => false
end
theorem isL_len (l : La) : ∀ (xs : List Tm) (ys : List Int), isL l xs ys = true → xs.length = ys.length
  | [], [], _ => rfl
  | x :: xs, a :: ys, h => by
    rw [isL, Bool.and_eq_true] at h
    rw [List.length_cons, List.length_cons, isL_len l xs ys h.2]
  | [], _ :: _, h => by rw [isL] at h; cases h
  | _ :: _, [], h => by rw [isL] at h; cases h
theorem isL_cut (l : La) : ∀ (ys vs : List Int) (q : List Tm), isL l q (ys ++ vs) = true → isL l (q.take ys.length) ys = true ∧ isL l (q.drop ys.length) vs = true
  | [], vs, q, h => by
    rw [List.length_nil, List.take_zero, List.drop_zero]
    exact ⟨by rw [isL], h⟩
  | a :: ys, vs, [], h => by
    have h : isL l [] (a :: (ys ++ vs)) = true := h
    rw [isL] at h; cases h
  | a :: ys, vs, x :: q, h => by
    have h : isL l (x :: q) (a :: (ys ++ vs)) = true := h
    rw [isL, Bool.and_eq_true] at h
    obtain ⟨h1, h2⟩ := isL_cut l ys vs q h.2
    rw [List.length_cons, List.take_succ_cons, List.drop_succ_cons, isL, Bool.and_eq_true]
    exact ⟨⟨h.1, h1⟩, h2⟩
theorem chT_is (l : La) : ∀ (k : Nat) (ys : List Int) (n : Nat), n < NS.rr (VN l) ys k → isL l (chT l k ys n) ys = true
  | 0, ys, n, h => by rw [rr_nil0 h]; show isL l [] [] = true; rw [isL]
  | k + 1, [], n, h => (rr_nils h).elim
  | k + 1, y :: tl, n, h => by
    obtain ⟨pre, i, post, n', h1, h2, h3, h4⟩ := chT_at l h
    have ih := chT_is l k _ n' h2
    obtain ⟨c1, c2⟩ := isL_cut l _ _ _ ih
    have hm := plL_mem (show i ∈ plL l y l.rules.length by rw [h1]; simp)
    rw [h4, isL, isT, Int.toNat_natCast, c1, c2, decide_eq_true (show (0 : Int) ≤ (i : Int) by omega), decide_eq_true (show (i : Int) < (l.rules.length : Int) by omega), hm.2]
    simp
theorem filter_pre {L pre post : List Nat} {i : Nat} (h : L = pre ++ i :: post) (hs : L.Pairwise (· < ·)) : (L.filter fun j : Nat => decide ((j : Int) < (i : Int))) = pre := by
  subst h
  rw [List.pairwise_append] at hs
  obtain ⟨_, h2, h3⟩ := hs
  rw [List.pairwise_cons] at h2
  have e1 : pre.filter (fun j : Nat => decide ((j : Int) < (i : Int))) = pre := List.filter_eq_self.2 fun j hj => decide_eq_true (by have := h3 j hj i (List.mem_cons_self ..); omega)
  have e2 : post.filter (fun j : Nat => decide ((j : Int) < (i : Int))) = [] := List.filter_eq_nil_iff.2 fun j hj => by
    have := h2.1 j hj
    simp
    omega
  rw [List.filter_append, List.filter_cons, e1, e2, if_neg (by simp), List.append_nil]
theorem rest_eq {α : Type} (b : Nat) (xs tl full : List α) (hc : cutL full 1 ((full.length : Nat) : Int) = some tl) (hb : (xs.length + tl.length) * (b + 1) ≤ 140737488355328) :
    (bif List.isEmpty xs then Option.bind (cutL full 1 ((full.length : Nat) : Int)) fun v15 => bif List.isEmpty v15 then some [] else Option.bind (appN b [] v15) fun v16 => some v16 else Option.bind (appN b [] xs) fun v12 => Option.bind (cutL full 1 ((full.length : Nat) : Int)) fun v13 => Option.bind (app b v12 v13) fun v14 => some v14 : Option (List α)) = some (xs ++ tl) := by
  rw [hc]
  cases xs with
  | nil =>
    cases tl with
    | nil => rfl
    | cons z tl =>
      have : appN b [] (z :: tl) = some (z :: tl) := by
        unfold appN
        show app b [] (z :: tl) = _
        rw [app_eq (by simpa using hb)]
        rfl
      simp only [List.isEmpty_nil, cond_true, Option.bind_some, List.isEmpty_cons, cond_false, this, List.nil_append]
  | cons x xs =>
    have h1 : appN b [] (x :: xs) = some (x :: xs) := by
      unfold appN
      show app b [] (x :: xs) = _
      rw [app_eq (Nat.le_trans (Nat.mul_le_mul_right _ (by simp)) hb)]
      rfl
    have h2 : app b (x :: xs) tl = some (x :: xs ++ tl) := app_eq hb
    simp only [List.isEmpty_cons, cond_false, h1, Option.bind_some, h2]
end Go.Proofs.Ytfkddbccogakoaa
set_option linter.unusedVariables false
set_option linter.unusedSimpArgs false
namespace Go.Proofs.Ytfkddbccogakoaa
open Go Go.RowKit

theorem isL_get (l : La) : ∀ (xs : List Tm) (ys : List Int) (i : Nat) (hi : i < xs.length), isL l xs ys = true → ∃ a, ys[i]? = some a ∧ isT l xs[i] a = true
  | x :: xs, a :: ys, 0, _, h => by
    rw [isL, Bool.and_eq_true] at h
    exact ⟨a, rfl, h.1⟩
  | x :: xs, a :: ys, i + 1, hi, h => by
    rw [isL, Bool.and_eq_true] at h
    obtain ⟨b, h1, h2⟩ := isL_get l xs ys i (by simpa using hi) h.2
    exact ⟨b, by simpa using h1, by simpa using h2⟩
  | x :: xs, [], i, _, h => by rw [isL] at h; cases h
theorem isT_at {l : La} {t : Tm} {s : Int} (h : isT l t s = true) : ∃ i : Nat, t.rule = (i : Int) ∧ i < l.rules.length ∧ symAt l i = s ∧ isL l t.args (argAt l i) = true := by
  obtain ⟨r, xs⟩ := t
  rw [isT] at h
  simp only [Bool.and_eq_true, decide_eq_true_eq, beq_iff_eq] at h
  obtain ⟨⟨h1, h2, h3⟩, h4⟩ := h
  obtain ⟨i, rfl⟩ := Int.eq_ofNat_of_zero_le h1
  rw [Int.toNat_natCast] at h3 h4
  exact ⟨i, rfl, by omega, h3, h4⟩
end Go.Proofs.Ytfkddbccogakoaa
