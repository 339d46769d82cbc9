/- Count and Total of both texts; the law CountingCounts. -/
import Derived.Test.YtfkddbccogakoaaKe
set_option linter.unusedVariables false
set_option linter.unusedSimpArgs false
namespace Go.Proofs.Ytfkddbccogakoaa
open Go Go.RowKit

def ansC (n : Nat) : Int × Int := if (1152921504606846976 : Int) < en n then (0, 11) else (en n, 0)
def badQ (l : La) (s k : Int) : Bool := decide (s < 0) || (decide ((l.symbols.length : Int) ≤ s) || (decide (k < 1) || decide (24 < k)))
theorem badQ_eq (l : La) (s k : Int) : ((bif decide (s < 0) then some true else bif decide ((l.symbols.length : Int) ≤ s) then some true else bif decide (k < 1) then some true else some (decide (24 < k))) : Option Bool) = some (badQ l s k) := by
  unfold badQ
  cases decide (s < 0) <;> cases decide ((l.symbols.length : Int) ≤ s) <;> cases decide (k < 1) <;> cases decide (24 < k) <;> rfl
theorem badQ_false {l : La} {s k : Int} (h : badQ l s k = false) : 0 ≤ s ∧ s < (l.symbols.length : Int) ∧ 1 ≤ k ∧ k ≤ 24 := by
  unfold badQ at h
  simp at h
  omega
/-- the error of a language, a symbol and a size -/
def errC (l : La) (c s k : Int) : Int := if c ≠ 0 then c else if badQ l s k = true then 1 else 0
theorem check_c {l : La} {c : Int} (hc : grammar_Check l = some c) (s k : Int) : counting_check l s k = some (errC l c s k) := by
  unfold counting_check errC
  rw [hc, Option.bind_some, badQ_eq]
  by_cases h : c = 0
  · rw [h, bne_self_eq_false, if_neg (by simp)]
    cases badQ l s k <;> rfl
  · rw [show (c != 0) = true by rw [bne_iff_ne]; exact h, if_pos h]
    rfl
theorem errC_zero {l : La} {c s k : Int} (h : errC l c s k = 0) : c = 0 ∧ 0 ≤ s ∧ s < (l.symbols.length : Int) ∧ 1 ≤ k ∧ k ≤ 24 := by
  unfold errC at h
  by_cases hc : c = 0
  · rw [if_neg (by simpa using hc)] at h
    cases hb : badQ l s k with
    | true => rw [hb] at h; cases h
    | false => exact ⟨hc, badQ_false hb⟩
  · rw [if_pos hc] at h; exact absurd h hc
theorem permit (x : Int) : counting_permitted_h x = some (if 1152921504606846976 < x then .inr () else .inl ()) := by
  unfold counting_permitted_h
  by_cases h : 1152921504606846976 < x
  · rw [decide_eq_true h, if_pos h]; rfl
  · rw [decide_eq_false h, if_neg h]; rfl
theorem open_eq (l : La) : counting_open_h l = some () := rfl
theorem count_prog {l : La} (hg : GoodL l) {c s k : Int} (hc : grammar_Check l = some c) : counting_Count l s k = some (if errC l c s k ≠ 0 then (0, errC l c s k) else ansC (VN l s k.toNat)) := by
  unfold counting_Count
  rw [check_c hc, Option.bind_some]
  by_cases he : errC l c s k = 0
  · obtain ⟨_, h1, h2, h3, h4⟩ := errC_zero he
    obtain ⟨n, rfl⟩ := Int.eq_ofNat_of_zero_le (show 0 ≤ k by omega)
    obtain ⟨m, t1, _⟩ := terms_ok hg fuel n s [] (Nat.le_of_lt (lt_fuel (by omega))) (by omega) (by omega) h1 h2 (KI.nil _)
    rw [he, bne_self_eq_false, if_neg (by simp), Int.toNat_natCast]
    unfold counting_counted_h2 counting_Count_1_h2
    rw [open_eq, Option.bind_some, t1, Option.bind_some, permit]
    unfold ansC
    by_cases hx : 1152921504606846976 < en (VN l s n)
    · rw [if_pos hx, if_pos hx]; rfl
    · rw [if_neg hx, if_neg hx]; rfl
  · rw [show (errC l c s k != 0) = true by rw [bne_iff_ne]; exact he, if_pos he]
    rfl
theorem loop_ex2 {σ β : Type} {step : σ → Option (σ ⊕ β)} (n : Nat) (hn : n < 18446744073709551616) (P : Nat → σ → Prop) (Q : β → Prop) (hs : ∀ i s, i < n → P i s → (∃ s', step s = some (.inl s') ∧ P (i + 1) s') ∨ ∃ b, step s = some (.inr b) ∧ Q b) (he : ∀ s, P n s → ∃ b, step s = some (.inr b) ∧ Q b) (s : σ) (h0 : P 0 s) : ∃ b, loopN step fuel s = some b ∧ Q b := by
  have key : ∀ (k i : Nat) (s : σ), i ≤ n → n - i < k → P i s → ∃ b, loopN step k s = some b ∧ Q b := by
    intro k
    induction k with
    | zero => intro i s _ h; omega
    | succ k ih =>
      intro i s hi hk hp
      have out : (∃ b, step s = some (.inr b) ∧ Q b) → ∃ b, loopN step (k + 1) s = some b ∧ Q b := fun ⟨b, h1, h2⟩ => ⟨b, loopN_out h1, h2⟩
      by_cases h : i = n
      · subst h
        exact out (he s hp)
      · rcases hs i s (by omega) hp with ⟨s', h1, h2⟩ | h1
        · obtain ⟨b, h3, h4⟩ := ih (i + 1) s' (by omega) (by omega) h2
          exact ⟨b, (loopN_go h1).trans h3, h4⟩
        · exact out h1
  exact key fuel 0 s (by omega) (lt_fuel (by omega)) h0
theorem en_mono {a b : Nat} (h : a ≤ b) : en a ≤ en b := by unfold en; omega
theorem sum_mono (f : Nat → Nat) {i n : Nat} (h : i ≤ n) : NS.sum f i ≤ NS.sum f n := by
  induction n with
  | zero => rw [show i = 0 by omega]; exact Nat.le_refl _
  | succ n ih =>
    by_cases hi : i = n + 1
    · rw [hi]; exact Nat.le_refl _
    · exact Nat.le_trans (ih (by omega)) (Nat.le_add_right (NS.sum f n) (f n))
/-- the number of terms up to a size -/
def totC (l : La) (s : Int) (n : Nat) : Nat := NS.sum (fun j => VN l s (j + 1)) n
theorem total_prog {l : La} (hg : GoodL l) {c s k : Int} (hc : grammar_Check l = some c) : counting_Total l s k = some (if errC l c s k ≠ 0 then (0, errC l c s k) else ansC (totC l s k.toNat)) := by
  unfold counting_Total
  rw [check_c hc, Option.bind_some]
  by_cases he : errC l c s k = 0
  · obtain ⟨_, h1, h2, h3, h4⟩ := errC_zero he
    obtain ⟨n, rfl⟩ := Int.eq_ofNat_of_zero_le (show 0 ≤ k by omega)
    rw [he, bne_self_eq_false, if_neg (by simp), Int.toNat_natCast, cond_false, open_eq, Option.bind_some]
    unfold counting_counted_h3 counting_Total_1_h
    obtain ⟨v7, q1, q2⟩ := loop_ex2 (step := counting_Total_1_h_l1 (n : Int) l s) n (by omega)
      (fun i st => st.1 = en (totC l s i) ∧ st.2.1 = (i : Int) ∧ KI (VN l) st.2.2 ∧ ¬ 1152921504606846976 < en (totC l s i))
      (fun v => (∃ m, v = .inl (en (totC l s n), m) ∧ ¬ 1152921504606846976 < en (totC l s n)) ∨ ∃ m, v = .inr m ∧ 1152921504606846976 < en (totC l s n))
      (fun i st hi hp => by
        obtain ⟨acc, j, m3⟩ := st
        obtain ⟨p1, p2, p3, p4⟩ := hp
        simp only at p1 p2 p3
        subst p1 p2
        have e1 : w64 ((i : Int) + 1) = ((i + 1 : Nat) : Int) := w64_succ' hi (by omega)
        obtain ⟨m4, t1, t2⟩ := terms_ok hg fuel (i + 1) s m3 (Nat.le_of_lt (lt_fuel (by omega))) (by omega) (by omega) h1 h2 p3
        have hsum : totC l s (i + 1) = totC l s i + VN l s (i + 1) := rfl
        have hplus : ∀ a b : Int, counting_plus_h a b = some () := fun _ _ => rfl
        have hmono : en (totC l s (i + 1)) ≤ en (totC l s n) := en_mono (sum_mono _ (by omega))
        unfold counting_Total_1_h_l1
        simp only
        rw [lt_len hi, cond_true, e1, t1, Option.bind_some, hplus, Option.bind_some]
        simp only
        rw [plus_en, ← hsum, permit, Option.bind_some]
        by_cases hx : 1152921504606846976 < en (totC l s (i + 1))
        · right
          refine ⟨.inr m4, ?_, .inr ⟨m4, rfl, by omega⟩⟩
          rw [if_pos hx]
          rfl
        · left
          refine ⟨(en (totC l s (i + 1)), ((i + 1 : Nat) : Int), m4), ?_, rfl, rfl, t2, hx⟩
          rw [if_neg hx]
          rfl) (fun st hp => by
        obtain ⟨acc, j, m3⟩ := st
        obtain ⟨p1, p2, p3, p4⟩ := hp
        simp only at p1 p2 p3
        subst p1 p2
        refine ⟨.inl (en (totC l s n), m3), ?_, .inl ⟨m3, rfl, p4⟩⟩
        unfold counting_Total_1_h_l1
        simp only
        rw [lt_len', cond_false]) (0, 0, []) ⟨rfl, rfl, KI.nil _, by show ¬ (1152921504606846976 : Int) < en 0; unfold en; omega⟩
    rw [q1, Option.bind_some]
    unfold ansC
    rcases q2 with ⟨m, rfl, hx⟩ | ⟨m, rfl, hx⟩
    · rw [if_neg hx]; rfl
    · rw [if_pos hx]; rfl
  · rw [show (errC l c s k != 0) = true by rw [bne_iff_ne]; exact he, if_pos he]
    rfl
end Go.Proofs.Ytfkddbccogakoaa
