/- Count and Total of both texts; the law CountingCounts. -/
import Derived.Test.YtfkddbccogakoaaKe
set_option linter.unusedVariables false
set_option linter.unusedSimpArgs false
namespace Go.Proofs.Ytfkddbccogakoaa
open Go Go.RowKit

def ansC (n : Nat) : Int × Int := if (1152921504606846976 : Int) < en n then (0, 11) else (en n, 0)
def badQ (l : La) (s k : Int) : Bool := decide (s < 0) || (decide ((l.symbols.length : Int) ≤ s) || (decide (k < 1) || decide (24 < k)))
theorem badQ_eq (l : La) (s k : Int) : ((bif decide (s < 0) then some true else bif decide ((l.symbols.length : Int) ≤ s) then some true else bif decide (k < 1) then some true else some (decide (24 < k))) : Option Bool) = some (badQ l s k) := by
  unfold badQ
  cases decide (s < 0) <;> cases decide ((l.symbols.length : Int) ≤ s) <;> cases decide (k < 1) <;> cases decide (24 < k) <;> rfl
theorem badQ_false {l : La} {s k : Int} (h : badQ l s k = false) : 0 ≤ s ∧ s < (l.symbols.length : Int) ∧ 1 ≤ k ∧ k ≤ 24 := by
  unfold badQ at h
  simp at h
  omega
/-- the error of a language, a symbol and a size -/
def errC (l : La) (c s k : Int) : Int := if c ≠ 0 then c else if badQ l s k = true then 1 else 0
theorem check_c {l : La} {c : Int} (hc : grammar_Check l = some c) (s k : Int) : counting_check l s k = some (errC l c s k) := by
  unfold counting_check errC
  rw [hc, Option.bind_some, badQ_eq]
  by_cases h : c = 0
  · rw [h, bne_self_eq_false, if_neg (by simp)]
    cases badQ l s k <;> rfl
  · rw [show (c != 0) = true by rw [bne_iff_ne]; exact h, if_pos h]
    rfl
theorem wrong_c {l : La} {c : Int} (hc : synthesisref11_Check l = some c) (s k : Int) : synthesisref12_wrong l s k = some (errC l c s k) := by
  unfold synthesisref12_wrong errC
  rw [hc, Option.bind_some, badQ_eq]
  by_cases h : c = 0
  · rw [h, bne_self_eq_false, if_neg (by simp)]
    cases badQ l s k <;> rfl
  · rw [show (c != 0) = true by rw [bne_iff_ne]; exact h, if_pos h]
    rfl
theorem errC_zero {l : La} {c s k : Int} (h : errC l c s k = 0) : c = 0 ∧ 0 ≤ s ∧ s < (l.symbols.length : Int) ∧ 1 ≤ k ∧ k ≤ 24 := by
  unfold errC at h
  by_cases hc : c = 0
  · rw [if_neg (by simpa using hc)] at h
    cases hb : badQ l s k with
    | true => rw [hb] at h; cases h
    | false => exact ⟨hc, badQ_false hb⟩
  · rw [if_pos hc] at h; exact absurd h hc
theorem permit (x : Int) : counting_permitted_h x = some (if 1152921504606846976 < x then .inr () else .inl ()) := by
  unfold counting_permitted_h
  by_cases h : 1152921504606846976 < x
  · rw [decide_eq_true h, if_pos h]; rfl
  · rw [decide_eq_false h, if_neg h]; rfl
theorem open_eq (l : La) : counting_open_h l = some () := rfl
theorem count_prog {l : La} (hg : GoodL l) {c s k : Int} (hc : grammar_Check l = some c) : counting_Count l s k = some (if errC l c s k ≠ 0 then (0, errC l c s k) else ansC (VN l s k.toNat)) := by
  unfold counting_Count
  rw [check_c hc, Option.bind_some]
  by_cases he : errC l c s k = 0
  · obtain ⟨_, h1, h2, h3, h4⟩ := errC_zero he
    obtain ⟨n, rfl⟩ := Int.eq_ofNat_of_zero_le (show 0 ≤ k by omega)
    obtain ⟨m, t1, _⟩ := terms_ok hg fuel n s [] (Nat.le_of_lt (lt_fuel (by omega))) (by omega) (by omega) h1 h2 (KI.nil _)
    rw [he, bne_self_eq_false, if_neg (by simp), Int.toNat_natCast]
    unfold counting_counted_h2 counting_Count_1_h2
    rw [open_eq, Option.bind_some, t1, Option.bind_some, permit]
    unfold ansC
    by_cases hx : 1152921504606846976 < en (VN l s n)
    · rw [if_pos hx, if_pos hx]; rfl
    · rw [if_neg hx, if_neg hx]; rfl
  · rw [show (errC l c s k != 0) = true by rw [bne_iff_ne]; exact he, if_pos he]
    rfl
theorem count_ref {l : La} (hg : GoodL l) {c s k : Int} (hc : synthesisref11_Check l = some c) : synthesisref12_Count l s k = some (if errC l c s k ≠ 0 then (0, errC l c s k) else ansC (VN l s k.toNat)) := by
  unfold synthesisref12_Count
  rw [wrong_c hc, Option.bind_some]
  by_cases he : errC l c s k = 0
  · obtain ⟨_, h1, h2, h3, h4⟩ := errC_zero he
    obtain ⟨n, rfl⟩ := Int.eq_ofNat_of_zero_le (show 0 ≤ k by omega)
    rw [he, bne_self_eq_false, if_neg (by simp), Int.toNat_natCast, cond_false, table_eq hg (by omega), Option.bind_some, tabN_idx _ ⟨h1, h2⟩, Option.bind_some, idx_nat, rowN_at _ (by omega), Option.bind_some, tabC_lo l n s n (Nat.le_refl _)]
    unfold ansC
    by_cases hx : 1152921504606846976 < en (VN l s n)
    · rw [decide_eq_true hx, if_pos hx]; rfl
    · rw [decide_eq_false hx, if_neg hx]; rfl
  · rw [show (errC l c s k != 0) = true by rw [bne_iff_ne]; exact he, if_pos he]
    rfl
theorem loop_ex2 {σ β : Type} {step : σ → Option (σ ⊕ β)} (n : Nat) (hn : n < 18446744073709551616) (P : Nat → σ → Prop) (Q : β → Prop) (hs : ∀ i s, i < n → P i s → (∃ s', step s = some (.inl s') ∧ P (i + 1) s') ∨ ∃ b, step s = some (.inr b) ∧ Q b) (he : ∀ s, P n s → ∃ b, step s = some (.inr b) ∧ Q b) (s : σ) (h0 : P 0 s) : ∃ b, loopN step fuel s = some b ∧ Q b := by
  have key : ∀ (k i : Nat) (s : σ), i ≤ n → n - i < k → P i s → ∃ b, loopN step k s = some b ∧ Q b := by
    intro k
    induction k with
    | zero => intro i s _ h; omega
    | succ k ih =>
      intro i s hi hk hp
      have out : (∃ b, step s = some (.inr b) ∧ Q b) → ∃ b, loopN step (k + 1) s = some b ∧ Q b := fun ⟨b, h1, h2⟩ => ⟨b, loopN_out h1, h2⟩
      by_cases h : i = n
      · subst h
        exact out (he s hp)
      · rcases hs i s (by omega) hp with ⟨s', h1, h2⟩ | h1
        · obtain ⟨b, h3, h4⟩ := ih (i + 1) s' (by omega) (by omega) h2
          exact ⟨b, (loopN_go h1).trans h3, h4⟩
        · exact out h1
  exact key fuel 0 s (by omega) (lt_fuel (by omega)) h0
theorem sum_mono (f : Nat → Nat) {i n : Nat} (h : i ≤ n) : NS.sum f i ≤ NS.sum f n := by
  induction n with
  | zero => rw [show i = 0 by omega]; exact Nat.le_refl _
  | succ n ih =>
    by_cases hi : i = n + 1
    · rw [hi]; exact Nat.le_refl _
    · exact Nat.le_trans (ih (by omega)) (Nat.le_add_right (NS.sum f n) (f n))
theorem bad_err {l : La} {c s k : Int} (h : c ≠ 0) : errC l c s k = c := by unfold errC; rw [if_pos h]
end Go.Proofs.Ytfkddbccogakoaa
