/- The order of terms: it is one. -/
import Derived.Test.YtkimcgcbdfkobaaCmp3
set_option linter.unusedVariables false
set_option linter.unusedSimpArgs false
namespace Go.Proofs.Ytkimcgcbdfkobaa
open Go Go.RowKit

theorem cmpI_self (xs : List Int) : cmpI xs xs = 0 := by
  induction xs with
  | nil => rfl
  | cons x xs ih => simp [cmpI, ih]
theorem cmpI_vals : ∀ xs ys : List Int, cmpI xs ys = -1 ∨ cmpI xs ys = 0 ∨ cmpI xs ys = 1
  | [], [] => by simp [cmpI]
  | [], _ :: _ => by simp [cmpI]
  | _ :: _, [] => by simp [cmpI]
  | x :: xs, y :: ys => by
    simp only [cmpI]
    split
    · simp
    · split
      · simp
      · exact cmpI_vals xs ys
theorem cmpI_anti : ∀ xs ys : List Int, cmpI ys xs = -cmpI xs ys
  | [], [] => by simp [cmpI]
  | [], _ :: _ => by simp [cmpI]
  | _ :: _, [] => by simp [cmpI]
  | x :: xs, y :: ys => by
    have ih := cmpI_anti xs ys
    simp only [cmpI]
    rcases Int.lt_trichotomy x y with h | h | h
    · rw [if_neg (by omega), if_pos h, if_pos h]; rfl
    · subst h; simp [ih]
    · rw [if_pos h, if_neg (by omega), if_pos h]
theorem cmpI_eq : ∀ {xs ys : List Int}, cmpI xs ys = 0 → xs = ys
  | [], [], _ => rfl
  | [], _ :: _, h => by simp [cmpI] at h
  | _ :: _, [], h => by simp [cmpI] at h
  | x :: xs, y :: ys, h => by
    simp only [cmpI] at h
    split at h
    · omega
    · split at h
      · omega
      · rw [show x = y by omega, cmpI_eq h]
theorem cmpI_trans : ∀ xs ys zs : List Int, cmpI xs ys = -1 → cmpI ys zs = -1 → cmpI xs zs = -1
  | [], [], zs, h, _ => by simp [cmpI] at h
  | [], y :: ys, [], _, h => by simp [cmpI] at h
  | [], y :: ys, z :: zs, _, _ => by simp [cmpI]
  | x :: xs, [], zs, h, _ => by simp [cmpI] at h
  | x :: xs, y :: ys, [], _, h => by simp [cmpI] at h
  | x :: xs, y :: ys, z :: zs, h1, h2 => by
    have ih := cmpI_trans xs ys zs
    simp only [cmpI] at *
    split at h1
    · split at h2
      · rw [if_pos (by omega)]
      · split at h2
        · omega
        · rw [if_pos (by omega)]
    · split at h1
      · omega
      · split at h2
        · rw [if_pos (by omega)]
        · split at h2
          · omega
          · rw [if_neg (by omega), if_neg (by omega)]
            exact ih h1 h2

theorem cmpT_self (t : Tm) : cmpT t t = 0 := by simp [cmpT, cmpI_self]
theorem cmpT_vals (s t : Tm) : cmpT s t = -1 ∨ cmpT s t = 0 ∨ cmpT s t = 1 := by
  unfold cmpT
  split
  · simp
  · split
    · simp
    · split
      · exact cmpI_vals _ _
      · exact cmpI_vals _ _
theorem cmpT_anti (s t : Tm) : cmpT t s = -cmpT s t := by
  unfold cmpT
  have h1 := cmpI_anti s.rules t.rules
  have h2 := cmpI_anti s.arities t.arities
  rcases Nat.lt_trichotomy s.size t.size with h | h | h
  · rw [if_neg (by omega), if_pos h, if_pos h]; rfl
  · have a1 : ¬ t.size < s.size := by omega
    have a2 : ¬ t.size > s.size := by omega
    have a3 : ¬ s.size < t.size := by omega
    have a4 : ¬ s.size > t.size := by omega
    rw [if_neg a1, if_neg a2, if_neg a3, if_neg a4, h1, h2]
    by_cases h0 : cmpI s.rules t.rules = 0
    · rw [if_neg (by simpa using h0), if_neg (by simpa using h0)]
    · rw [if_pos (by omega), if_pos h0]
  · rw [if_pos h, if_neg (by omega), if_pos h]
/-- less, in words -/
theorem cmpT_lt_iff (s t : Tm) : cmpT s t = -1 ↔ s.size < t.size ∨ (s.size = t.size ∧ (cmpI s.rules t.rules = -1 ∨ (s.rules = t.rules ∧ cmpI s.arities t.arities = -1))) := by
  unfold cmpT
  rcases Nat.lt_trichotomy s.size t.size with h | h | h
  · rw [if_pos h]; simp [h]
  · rw [if_neg (by omega), if_neg (by omega)]
    by_cases h0 : cmpI s.rules t.rules = 0
    · rw [if_neg (by simpa using h0)]
      have := cmpI_eq h0
      constructor
      · intro h1; exact .inr ⟨h, .inr ⟨this, h1⟩⟩
      · rintro (h1 | ⟨_, h1 | ⟨_, h1⟩⟩) <;> omega
    · rw [if_pos h0]
      constructor
      · intro h1; exact .inr ⟨h, .inl h1⟩
      · rintro (h1 | ⟨_, h1 | ⟨h2, _⟩⟩)
        · omega
        · exact h1
        · rw [h2, cmpI_self] at h0; omega
  · rw [if_neg (by omega), if_pos h]
    constructor
    · intro h1; omega
    · rintro (h1 | ⟨h1, _⟩) <;> omega
theorem cmpT_trans (s t u : Tm) (h1 : cmpT s t = -1) (h2 : cmpT t u = -1) : cmpT s u = -1 := by
  rw [cmpT_lt_iff] at *
  rcases h1 with h1 | ⟨h1, h1'⟩
  · rcases h2 with h2 | ⟨h2, _⟩ <;> exact .inl (by omega)
  · rcases h2 with h2 | ⟨h2, h2'⟩
    · exact .inl (by omega)
    · refine .inr ⟨by omega, ?_⟩
      rcases h1' with h1' | ⟨e1, h1'⟩
      · rcases h2' with h2' | ⟨e2, _⟩
        · exact .inl (cmpI_trans _ _ _ h1' h2')
        · rw [← e2]; exact .inl h1'
      · rcases h2' with h2' | ⟨e2, h2'⟩
        · rw [e1]; exact .inl h2'
        · exact .inr ⟨e1.trans e2, cmpI_trans _ _ _ h1' h2'⟩

mutual
/-- a term is known by its rules and arities in preorder -/
theorem pre_inj : ∀ (s t : Tm) (xs ys us vs : List Int), s.pre Tm.rule ++ xs = t.pre Tm.rule ++ ys → s.pre Tm.nargs ++ us = t.pre Tm.nargs ++ vs → s = t ∧ xs = ys ∧ us = vs
  | .mk r l, .mk r' l', xs, ys, us, vs, h1, h2 => by
    simp only [Tm.pre, List.cons_append, List.cons.injEq] at h1 h2
    have hr : r = r' := h1.1
    have hl : l.length = l'.length := by have := h2.1; simp only [Tm.nargs, Tm.args] at this; omega
    obtain ⟨e1, e2, e3⟩ := preL_inj l l' hl xs ys us vs h1.2 h2.2
    exact ⟨by rw [hr, e1], e2, e3⟩
theorem preL_inj : ∀ (l l' : List Tm), l.length = l'.length → ∀ (xs ys us vs : List Int), Tm.preL Tm.rule l ++ xs = Tm.preL Tm.rule l' ++ ys → Tm.preL Tm.nargs l ++ us = Tm.preL Tm.nargs l' ++ vs → l = l' ∧ xs = ys ∧ us = vs
  | [], [], _, xs, ys, us, vs, h1, h2 => ⟨rfl, by simpa [Tm.preL] using h1, by simpa [Tm.preL] using h2⟩
  | [], _ :: _, h, _, _, _, _, _, _ => by simp at h
  | _ :: _, [], h, _, _, _, _, _, _ => by simp at h
  | t :: l, t' :: l', h, xs, ys, us, vs, h1, h2 => by
    simp only [Tm.preL, List.append_assoc] at h1 h2
    obtain ⟨e1, e2, e3⟩ := pre_inj t t' _ _ _ _ h1 h2
    obtain ⟨e4, e5, e6⟩ := preL_inj l l' (by simpa using h) xs ys us vs e2 e3
    exact ⟨by rw [e1, e4], e5, e6⟩
end
theorem cmpT_eq0 {s t : Tm} (h : cmpT s t = 0) : s = t := by
  have h1 : s.size = t.size := by
    rcases Nat.lt_trichotomy s.size t.size with h' | h' | h'
    · have := (cmpT_eq s t).1 h'; omega
    · exact h'
    · have := (cmpT_eq s t).2.1 h'; omega
  by_cases h0 : cmpI s.rules t.rules = 0
  · have h2 := (cmpT_eq s t).2.2.2 h1 h0
    rw [h] at h2
    have e1 := cmpI_eq h0
    have e2 := cmpI_eq h2.symm
    exact (pre_inj s t [] [] [] [] (by simpa [Tm.rules] using e1) (by simpa [Tm.arities] using e2)).1
  · have := (cmpT_eq s t).2.2.1 h1 h0
    omega
theorem cmpT_sub {t : Tm} {r : Int} {l : List Tm} (h : t ∈ l) : cmpT t (.mk r l) = -1 :=
  (cmpT_eq _ _).1 (by have := Tm.sizeL_mem h; simp only [Tm.size]; omega)
end Go.Proofs.Ytkimcgcbdfkobaa
