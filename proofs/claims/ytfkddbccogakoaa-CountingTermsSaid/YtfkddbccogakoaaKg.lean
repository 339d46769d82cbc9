/- The least size is the least size with a term; the law CountingSums. -/
import Derived.Test.YtfkddbccogakoaaKf
set_option linter.unusedVariables false
set_option linter.unusedSimpArgs false
namespace Go.Proofs.Ytfkddbccogakoaa
open Go Go.RowKit

theorem sum_ge (f : Nat → Nat) : ∀ (n i : Nat), i < n → f i ≤ NS.sum f n
  | 0, i, h => by omega
  | n + 1, i, h => by
    show f i ≤ NS.sum f n + f n
    by_cases hi : i = n
    · rw [hi]; omega
    · have := sum_ge f n i (by omega); omega
/-- every known size is that of a term -/
def Rz (l : La) (o : List Int) : Prop := ∀ s, 0 ≤ s → s < (l.symbols.length : Int) → 0 < at0 o s → 0 < VN l s (at0 o s).toNat
theorem rr_pos {l : La} {o : List Int} (ho : OkO l.symbols.length o) (hz : Rz l o) : ∀ (ys : List Int) (n : Int), inR l ys → 1 ≤ n → costF o ys n ≠ 0 → 0 < NS.rr (VN l) ys (costF o ys n - n).toNat
  | [], n, _, hn, h => by
    rw [show (costF o [] n - n).toNat = 0 by simp [costF], SR.rr, if_pos rfl]
    exact Nat.one_pos
  | a :: ys, n, hy, hn, h => by
    have ha := hy a (List.mem_cons_self ..)
    have hnn : ∀ b ∈ (a :: ys), 0 ≤ at0 o b := fun b hb => ho.nn (hy b hb).1 (hy b hb).2
    have h0 := hnn a (List.mem_cons_self ..)
    unfold costF at h ⊢
    by_cases hza : at0 o a = 0
    · rw [if_pos hza] at h; exact absurd rfl h
    · rw [if_neg hza] at h ⊢
      rcases costF_ge (o := o) ys (n + at0 o a) (fun b hb => hnn b (List.mem_cons_of_mem _ hb)) (by omega) with h1 | ⟨h1, _⟩
      · exact absurd h1 h
      · have hrec := rr_pos ho hz ys (n + at0 o a) (fun b hb => hy b (List.mem_cons_of_mem _ hb)) (by omega) h
        rw [SR.rr]
        refine Nat.lt_of_lt_of_le ?_ (sum_ge _ _ (at0 o a).toNat (by omega))
        have hv := hz a ha.1 ha.2 (by omega)
        rw [show (costF o ys (n + at0 o a) - n).toNat - (at0 o a).toNat = (costF o ys (n + at0 o a) - (n + at0 o a)).toNat by omega]
        exact Nat.mul_pos hv hrec
theorem VN_succ (l : La) (s : Int) (k : Nat) : VN l s (k + 1) = NS.sum (fun i => if symAt l i = s then 1 * NS.rr (VN l) (argAt l i) k else 0) l.rules.length := NS.val_succ _ _ _ _ _ _
theorem Rz.step {l : La} {o : List Int} (ho : OkO l.symbols.length o) (hz : Rz l o) {r : Ru} (hmem : r ∈ l.rules) (hr : RG l.symbols.length r) : Rz l (stpR o r) := by
  unfold stpR
  split
  · rename_i hi
    obtain ⟨hc, _⟩ := imp_iff.1 hi
    intro s s0 s1 hp
    rw [at0_set hr.s0 (by rw [ho.len]; exact hr.s1) s0] at hp ⊢
    by_cases hs : s = r.symbol
    · rw [if_pos hs]
      obtain ⟨i, hi2, hir⟩ := List.mem_iff_getElem.1 hmem
      have hpos := rr_pos ho hz r.args 1 hr.args (by omega) (show costF o r.args 1 ≠ 0 by unfold rc at hc; omega)
      have hrc : (rc o r).toNat = (costF o r.args 1 - 1).toNat + 1 := by unfold rc at hc ⊢; omega
      rw [hrc, VN_succ]
      refine Nat.lt_of_lt_of_le ?_ (sum_ge _ _ i hi2)
      have e1 : symAt l i = s := by unfold symAt; rw [List.getElem?_eq_getElem hi2, hir, hs]; rfl
      have e2 : argAt l i = r.args := by unfold argAt; rw [List.getElem?_eq_getElem hi2, hir]; rfl
      show 0 < if symAt l i = s then 1 * NS.rr (VN l) (argAt l i) (costF o r.args 1 - 1).toNat else 0
      rw [if_pos e1, e2, Nat.one_mul]
      exact hpos
    · rw [if_neg hs] at hp ⊢
      exact hz s s0 s1 hp
  · exact hz
theorem en_small {n : Nat} (h : ¬ (1152921504606846976 : Int) < en n) : en n = (n : Int) := by unfold en at *; omega
end Go.Proofs.Ytfkddbccogakoaa
