/- Least costs by both texts; the law WeightLeasts. -/
import Derived.Test.YtpcfkflhnkfjjaaWf
set_option linter.unusedVariables false
set_option linter.unusedSimpArgs false
namespace Go.Proofs.Ytpcfkflhnkfjjaa
open Go Go.RowKit

theorem rule_at2 (l : La) {k : Nat} (h : k < l.rules.length) : ∃ y, l.rules[k]? = some y ∧ y.symbol = symAt l k ∧ y.args = argAt l k ∧ y ∈ l.rules :=
  ⟨l.rules[k], List.getElem?_eq_getElem h, by unfold symAt; rw [List.getElem?_eq_getElem h]; rfl, by unfold argAt; rw [List.getElem?_eq_getElem h]; rfl, List.getElem_mem h⟩
theorem tabW_hi (l : La) (w : List Int) (n : Nat) (s : Int) (k : Nat) (h : n < k) : tabW l w n s k = none := by
  unfold tabW
  rw [SR.tab_eq, if_neg (by omega)]
  rfl
theorem tabW_lo (l : La) (w : List Int) (n : Nat) (s : Int) (k : Nat) (h : k ≤ n) : tabW l w n s k = valW l w s k := by
  unfold tabW
  rw [SR.tab_eq, if_pos h]
  rfl
/-- the table while the rules of one size are gone through -/
def midW (l : La) (w : List Int) (n i : Nat) (s : Int) (k : Nat) : ON := if k = n + 1 then MP.sum (fun i => if symAt l i = s then oadd (wAt w i) (MP.rr (tabW l w n) (argAt l i) n) else none) i else tabW l w n s k
theorem midW_bd {l : La} {w : List Int} (hw : ∀ x ∈ w, 0 ≤ x ∧ x ≤ 1000) (hlen : w.length = l.rules.length) (n : Nat) (hn : n ≤ 14) (i : Nat) (s : Int) (k : Nat) : BN (1000 * k) (midW l w n i s k) := by
  unfold midW
  split
  · rename_i hk
    subst hk
    refine BN.sum _ fun i hi => ?_
    split
    · have h1 : BN 1000 (wAt w i) := fun v hv => by
        unfold wAt at hv
        cases hv
        cases he : w[i]? with
        | none => simp
        | some x => have := hw x (List.mem_of_getElem? he); simp only [Option.getD_some]; omega
      have h2 := h1.oadd (BN.rr (V := tabW l w n) (argAt l i) n fun a k _ => tabW_bd hw n a k)
      exact h2.mono (by omega)
    · exact BN.none
  · exact tabW_bd hw n s k
theorem least_l1 {l : La} (hg : GoodL l) {w : List Int} (hw : ∀ x ∈ w, 0 ≤ x ∧ x ≤ 1000) (hlen : w.length = l.rules.length) {n most : Nat} (hn : n < most) (hm : most ≤ 14) (z : List (List Int)) :
    loopN (weight_Least_l1 l w ((n : Int), z)) fuel (0, tabL (tabW l w n) l.symbols.length (most + 1)) = some (tabL (tabW l w (n + 1)) l.symbols.length (most + 1)) := by
  have h96 := hg.rules
  have ew : w64 ((n : Int) + 1) = ((n + 1 : Nat) : Int) := by rw [w64_eq (by omega) (by omega)]; omega
  have h := loop_end (step := weight_Least_l1 l w ((n : Int), z)) l.rules.length (by omega) (fun i => ((i : Int), tabL (midW l w n i) l.symbols.length (most + 1))) (tabL (tabW l w (n + 1)) l.symbols.length (most + 1)) (fun i hi => by
    obtain ⟨y, hy, hs, har, hmem⟩ := rule_at2 l hi
    have gy := hg.good y hmem
    obtain ⟨v, hv, hwi, hwa⟩ := wAt_some hw (i := i) (l := l) (by omega)
    have hsr : 0 ≤ y.symbol ∧ y.symbol < (l.symbols.length : Int) := ⟨gy.sym0, gy.sym1⟩
    have hsum := sums_eq (T := midW l w n i) (ns := l.symbols.length) (M := most + 1) (p := n) (by omega) (by omega) (fun a k _ => midW_bd hw hlen n (by omega) i a k) (fun a => by
      unfold midW
      rw [if_neg (by omega)]
      have h0 : tabW l w n a 0 = valW l w a 0 := tabW_lo l w n a 0 (by omega)
      rw [h0]; rfl) y.args gy.few gy.args
    have hrr : MP.rr (midW l w n i) y.args n = MP.rr (tabW l w n) y.args n := MP.rr_congr _ _ fun a _ k hk => by unfold midW; rw [if_neg (by omega)]
    have e3 : (rowE e1 (midW l w n i y.symbol) (most + 1))[n + 1]? = some (e1 (midW l w n i y.symbol (n + 1))) := rowE_at _ _ (by omega)
    have e4 : (rowE e1 (MP.rr (midW l w n i) y.args) (n + 1))[n]? = some (e1 (MP.rr (tabW l w n) y.args n)) := by rw [rowE_at _ _ (by omega), hrr]
    have hb1 : BN 100000 (midW l w n i y.symbol (n + 1)) := (midW_bd hw hlen n (by omega) i y.symbol (n + 1)).mono (by omega)
    have hb2 : BN 100000 (wAt w i) := by rw [hwa]; intro q hq; cases hq; omega
    have hb3 : BN 100000 (MP.rr (tabW l w n) y.args n) := (BN.rr (V := tabW l w n) y.args n fun a k _ => tabW_bd hw n a k).mono (by omega)
    have hc := comb1 hb1 hb2 hb3
    have hev : e1 (wAt w i) = (v : Int) := by rw [hwa]; rfl
    rw [hev] at hc
    simp only [weight_Least_l1, lt_len hi, cond_true, idx_nat, hy, Option.bind_some, tabL_idx _ hsr, ew, e3, hwi, hsum, e4, hc, w64_succ' hi (show l.rules.length ≤ 9223372036854775807 by omega), Int.toNat_natCast, rowE_set, tabL_set _ hsr]
    congr 3
    refine tabL_congr fun s k hk => ?_
    unfold midW
    by_cases hss : s = y.symbol
    · rw [if_pos hss]
      by_cases hk1 : k = n + 1
      · rw [if_pos hk1, if_pos hk1, if_pos rfl, SR.sum, ← hs, ← hss, if_pos rfl, ← har]
        rfl
      · rw [if_neg hk1, if_neg hk1, if_neg hk1, hss]
    · rw [if_neg hss]
      by_cases hk1 : k = n + 1
      · rw [if_pos hk1, if_pos hk1, SR.sum, ← hs, if_neg (fun h => hss h.symm)]
        exact (omin_none _).symm
      · rw [if_neg hk1, if_neg hk1]) (by
    simp only [weight_Least_l1, lt_len', cond_false]
    rfl)
  have h0 : tabL (tabW l w n) l.symbols.length (most + 1) = tabL (midW l w n 0) l.symbols.length (most + 1) := tabL_congr fun s k hk => by
    unfold midW
    by_cases hk1 : k = n + 1
    · rw [if_pos hk1, tabW_hi l w n s k (by omega)]; rfl
    · rw [if_neg hk1]
  rw [h0]
  exact h
theorem least_l2 {l : La} (hg : GoodL l) {w : List Int} (hw : ∀ x ∈ w, 0 ≤ x ∧ x ≤ 1000) (hlen : w.length = l.rules.length) {most : Nat} (hm : most ≤ 14) :
    loopN (weight_Least_l2 l w (most : Int)) fuel (0, tabL (tabW l w 0) l.symbols.length (most + 1)) = some (tabL (tabW l w most) l.symbols.length (most + 1)) :=
  loop_end (step := weight_Least_l2 l w (most : Int)) most (by omega) (fun j => ((j : Int), tabL (tabW l w j) l.symbols.length (most + 1))) (tabL (tabW l w most) l.symbols.length (most + 1)) (fun j hj => by
    simp only [weight_Least_l2, lt_len hj, cond_true, least_l1 hg hw hlen hj hm, Option.bind_some, w64_succ' hj (show most ≤ 9223372036854775807 by omega)]) (by simp only [weight_Least_l2, lt_len', cond_false])
theorem least_l3 (ns : Nat) (hns : ns ≤ 16) {most : Nat} (hm : most ≤ 14) (T : Int → Nat → ON) (hT : ∀ s k, T s k = none) : loopN (weight_Least_l3 (most : Int) (List.replicate ns ([] : List Int))) fuel (0, List.replicate ns ([] : List Int)) = some (tabL T ns (most + 1)) := by
  have ew : w64 ((most : Int) + 1) = ((most + 1 : Nat) : Int) := by rw [w64_eq (by omega) (by omega)]; omega
  have h := loop_end (step := weight_Least_l3 (most : Int) (List.replicate ns ([] : List Int))) ns (by omega) (fun j => ((j : Int), List.replicate j (rowE e1 (fun _ => none) (most + 1)) ++ List.replicate (ns - j) ([] : List Int))) (tabL T ns (most + 1)) (fun j hj => by
    have e1' : (List.replicate j (rowE e1 (fun _ => none) (most + 1)) ++ List.replicate (ns - j) ([] : List Int))[j]? = some [] := by
      rw [List.getElem?_append_right (by rw [List.length_replicate]; omega), List.length_replicate, Nat.sub_self, List.getElem?_replicate, if_pos (by omega)]
    have e2' : (List.replicate j (rowE e1 (fun _ => none) (most + 1)) ++ List.replicate (ns - j) ([] : List Int)).set j (rowE e1 (fun _ => none) (most + 1)) = List.replicate (j + 1) (rowE e1 (fun _ => none) (most + 1)) ++ List.replicate (ns - (j + 1)) ([] : List Int) := by
      rw [List.set_append_right _ _ (by rw [List.length_replicate]; omega), List.length_replicate, Nat.sub_self, show ns - j = (ns - (j + 1)) + 1 by omega, List.replicate_succ, List.set_cons_zero, List.replicate_succ', List.append_assoc]
      rfl
    simp only [weight_Least_l3, List.length_replicate, lt_len hj, cond_true, ew, repeat_eq (show 1 ≤ most + 1 by omega) (show most + 1 ≤ 15 by omega), Option.bind_some, idx_nat, e1', Int.toNat_natCast, e2', w64_succ' hj (show ns ≤ 9223372036854775807 by omega)]) (by
    have hl : (List.replicate ns ([] : List Int)).length = ns := List.length_replicate
    simp only [weight_Least_l3, hl, lt_len', cond_false]
    congr 2
    rw [Nat.sub_self, List.replicate_zero, List.append_nil]
    refine List.ext_getElem? fun i => ?_
    by_cases hi : i < ns
    · rw [List.getElem?_replicate, if_pos hi]
      have := tabL_idx T (n := ns) (m := most + 1) (s := (i : Int)) ⟨by omega, by omega⟩
      rw [idx_nat] at this
      rw [this]
      congr 1
      exact rowE_congr _ fun m _ => (hT _ _).symm
    · rw [List.getElem?_replicate, if_neg hi, List.getElem?_eq_none (by rw [tabL_len]; omega)])
  rw [Nat.sub_zero, List.replicate_zero, List.nil_append] at h
  exact h
theorem min_row (f : Nat → ON) (n : Nat) (hn : n ≤ 14) (hf : ∀ k, k ≤ n → BN 100000 (f k)) : slices_Min_int_int (rowE e1 f (n + 1)) = some (e1 (MP.sum f (n + 1))) := by
  have hb : ∀ j, j ≤ n + 1 → BN 100000 (MP.sum f j) := fun j hj => BN.sum _ fun i hi => hf i (by omega)
  have himin : ∀ {x y : ON}, BN 100000 x → BN 100000 y → imin (e1 x) (e1 y) = e1 (omin x y) := fun {x y} hx hy => by
    have h := comb1 hx hy (show BN 100000 (some 0) from fun v hv => by cases hv; omega)
    have hy' := e1_bd hy
    have e0 : e1 (some 0) = 0 := rfl
    rw [e0, Int.add_zero, w64_eq (by omega) (by omega)] at h
    rw [h]
    congr 2
    cases y <;> rfl
  have h0 : idx (rowE e1 f (n + 1)) 0 = some (e1 (f 0)) := by
    have := rowE_at e1 f (show 0 < n + 1 by omega)
    rw [show (0 : Int) = ((0 : Nat) : Int) from rfl, idx_nat, this]
  unfold slices_Min_int_int
  rw [rowE_len, decide_eq_false (by omega)]
  simp only [cond_false, h0, Option.bind_some]
  have h := loop_end (step := slices_Min_int_int_l1 (rowE e1 f (n + 1))) n (by omega) (fun j => (e1 (MP.sum f (j + 1)), ((j + 1 : Nat) : Int))) (e1 (MP.sum f (n + 1))) (fun j hj => by
    have e3 := rowE_at e1 f (show j + 1 < n + 1 by omega)
    have ew : w64 (((j + 1 : Nat) : Int) + 1) = ((j + 1 + 1 : Nat) : Int) := by rw [w64_eq (by omega) (by omega)]; omega
    simp only [slices_Min_int_int_l1, rowE_len, lt_len (show j + 1 < n + 1 by omega), cond_true, idx_nat, e3, Option.bind_some, ew, himin (hb (j + 1) (by omega)) (hf (j + 1) (by omega))]
    rfl) (by
    have hl := rowE_len e1 f (n + 1)
    simp only [slices_Min_int_int_l1, hl, lt_len', cond_false])
  have hs0 : e1 (MP.sum f (0 + 1)) = e1 (f 0) := by
    rw [SR.sum, SR.sum]
    rfl
  rw [hs0] at h
  rw [show (1 : Int) = ((0 + 1 : Nat) : Int) from rfl, h]
  rfl
/-- the answer, from the least cost -/
def ansW : ON → Int × Int
  | some v => ((v : Int), 0)
  | none => (0, 12)
theorem least_prog {l : La} (hg : GoodL l) {w : List Int} (hc : weight_Check l w = some 0) (hw : ∀ x ∈ w, 0 ≤ x ∧ x ≤ 1000) (hlen : w.length = l.rules.length) {s : Int} (hs : 0 ≤ s ∧ s < (l.symbols.length : Int)) {most : Nat} (h1 : 1 ≤ most) (hm : most ≤ 14) :
    weight_Least l w s (most : Int) = some (ansW (MP.sum (valW l w s) (most + 1))) := by
  have h16 := hg.sym16
  unfold weight_Least
  rw [hc, decide_eq_false (show ¬ s < 0 by omega), decide_eq_false (show ¬ (l.symbols.length : Int) ≤ s by omega), decide_eq_false (show ¬ (most : Int) < 1 by omega), decide_eq_false (show ¬ (24 : Int) < (most : Int) by omega)]
  simp only [bne_self_eq_false, cond_false, Option.bind_some, mkL_eq 24 ([] : List Int) l.symbols.length (by omega), least_l3 l.symbols.length h16 hm (tabW l w 0) (fun _ _ => rfl), least_l2 hg hw hlen hm, tabL_idx _ hs, min_row (tabW l w most s) most hm (fun k hk => (tabW_bd hw most s k).mono (by omega))]
  have he : MP.sum (tabW l w most s) (most + 1) = MP.sum (valW l w s) (most + 1) := MP.sum_congr _ fun k hk => tabW_lo l w most s k (by omega)
  rw [he]
  have hb : BN 100000 (MP.sum (valW l w s) (most + 1)) := BN.sum _ fun k hk => (valW_bd hw s k).mono (by omega)
  cases hx : MP.sum (valW l w s) (most + 1) with
  | none => rfl
  | some v =>
    have := hb v hx
    show (bif decide ((v : Int) < 1099511627776) then some ((v : Int), 0) else some (0, 12)) = _
    rw [decide_eq_true (by omega)]
    rfl
theorem comb2 {x a b : ON} (ha : BN 100000 a) (hb : BN 100000 b) : (if (e2 b < 0 ∨ e2 a < 0) then e2 x else if (e2 x < 0 ∨ w64 (e2 a + e2 b) < e2 x) then w64 (e2 a + e2 b) else e2 x) = e2 (omin x (oadd a b)) := by
  cases a with
  | none =>
    rw [if_pos (.inr (by decide)), show oadd none b = none by cases b <;> rfl, omin_none]
  | some a =>
    cases b with
    | none => rw [if_pos (.inl (by decide)), show oadd (some a) none = none from rfl, omin_none]
    | some b =>
      have h1 := ha a rfl
      have h2 := hb b rfl
      have e3 : e2 (some a) = (a : Int) := rfl
      have e4 : e2 (some b) = (b : Int) := rfl
      rw [e3, e4, if_neg (by omega), w64_eq (by omega) (by omega)]
      cases x with
      | none =>
        rw [if_pos (.inl (by decide))]
        show (a : Int) + (b : Int) = ((a + b : Nat) : Int)
        omega
      | some x =>
        have e5 : e2 (some x) = (x : Int) := rfl
        rw [e5]
        show _ = ((min x (a + b) : Nat) : Int)
        split <;> omega
def rowS (l : La) (w : List Int) (k : Nat) : List Int := rowE e2 (fun s => valW l w (s : Int) k) l.symbols.length
def bestL (l : La) (w : List Int) (j : Nat) : List (List Int) := [] :: (List.range j).map fun k => rowS l w (k + 1)
theorem bestL_len (l : La) (w : List Int) (j : Nat) : (bestL l w j).length = j + 1 := by simp [bestL]
theorem bestL_at (l : La) (w : List Int) {j k : Nat} (h : k + 1 ≤ j) : (bestL l w j)[k + 1]? = some (rowS l w (k + 1)) := by
  have : k < j := by omega
  simp [bestL, this]
theorem rowS_at (l : La) (w : List Int) (k : Nat) {s : Int} (h : 0 ≤ s ∧ s < (l.symbols.length : Int)) : idx (rowS l w k) s = some (e2 (valW l w s k)) := by
  obtain ⟨q, rfl⟩ := Int.eq_ofNat_of_zero_le h.1
  rw [idx_nat]
  exact rowE_at _ _ (by omega)
theorem spread_eq {l : La} {w : List Int} (hw : ∀ x ∈ w, 0 ≤ x ∧ x ≤ 1000) (j : Nat) (hj : j ≤ 14) : ∀ (n : Nat) (ys : List Int) (r : Nat), ys.length < n → r ≤ j → (∀ a ∈ ys, 0 ≤ a ∧ a < (l.symbols.length : Int)) → ys.length ≤ 5 → synthesisref38_spread n (bestL l w j) ys (r : Int) = some (e2 (MP.rr (valW l w) ys r))
  | 0, ys, r, h, _, _, _ => by omega
  | n + 1, [], r, h, hr, _, _ => by
    show synthesisref38_spread_b (synthesisref38_spread n) (bestL l w j) [] (r : Int) = _
    unfold synthesisref38_spread_b
    rw [SR.rr]
    by_cases h0 : r = 0
    · subst h0; rfl
    · rw [show ((r : Int) == 0) = false by rw [beq_eq_false_iff_ne]; omega, if_neg h0]; rfl
  | n + 1, a :: ys, r, h, hr, ha, h5 => by
    rw [List.length_cons] at h h5
    show synthesisref38_spread_b (synthesisref38_spread n) (bestL l w j) (a :: ys) (r : Int) = _
    unfold synthesisref38_spread_b
    have ha0 := ha a (List.mem_cons_self ..)
    have hlen : (((a :: ys).length : Int) == 0) = false := by rw [beq_eq_false_iff_ne, List.length_cons]; omega
    rw [hlen]
    have hcut : cutL (a :: ys) 1 (((a :: ys).length : Nat) : Int) = some ys := by
      unfold cutL
      rw [if_pos ⟨by omega, by rw [List.length_cons]; omega, by omega⟩, Int.toNat_natCast, List.take_length]
      rfl
    have h0 : idx (a :: ys) 0 = some a := rfl
    have hL := loop_end (step := synthesisref38_spread_l1 (bestL l w j) (a :: ys) (r : Int) (synthesisref38_spread n)) r (by omega) (fun i => (e2 (MP.sum (fun k => oadd (valW l w a k) (MP.rr (valW l w) ys (r - k))) (i + 1)), ((i + 1 : Nat) : Int))) (e2 (MP.rr (valW l w) (a :: ys) r)) (fun i hi => by
      have ew : w64 (((i + 1 : Nat) : Int) + 1) = ((i + 1 + 1 : Nat) : Int) := by rw [w64_eq (by omega) (by omega)]; omega
      have ew2 : w64 ((r : Int) - ((i + 1 : Nat) : Int)) = ((r - (i + 1) : Nat) : Int) := by rw [w64_eq (by omega) (by omega)]; omega
      have hle : decide (((i + 1 : Nat) : Int) ≤ (r : Int)) = true := decide_eq_true (by omega)
      have hrec := spread_eq hw j hj n ys (r - (i + 1)) (by omega) (by omega) (fun b hb => ha b (List.mem_cons_of_mem _ hb)) (by omega)
      have hb1 : BN 100000 (valW l w a (i + 1)) := (valW_bd hw a (i + 1)).mono (by omega)
      have hb2 : BN 100000 (MP.rr (valW l w) ys (r - (i + 1))) := (BN.rr (V := valW l w) ys (r - (i + 1)) fun b k _ => valW_bd hw b k).mono (by omega)
      have hc := comb2 (x := MP.sum (fun k => oadd (valW l w a k) (MP.rr (valW l w) ys (r - k))) (i + 1)) hb1 hb2
      have hgoal : e2 (MP.sum (fun k => oadd (valW l w a k) (MP.rr (valW l w) ys (r - k))) (i + 1 + 1)) = e2 (omin (MP.sum (fun k => oadd (valW l w a k) (MP.rr (valW l w) ys (r - k))) (i + 1)) (oadd (valW l w a (i + 1)) (MP.rr (valW l w) ys (r - (i + 1))))) := rfl
      simp only [hgoal, ← hc]
      simp only [synthesisref38_spread_l1, hle, cond_true, hcut, Option.bind_some, ew2, hrec, idx_nat, bestL_at l w (show i + 1 ≤ j by omega), h0, rowS_at l w (i + 1) ha0, ew]
      by_cases c1 : e2 (MP.rr (valW l w) ys (r - (i + 1))) < 0
      · rw [decide_eq_true c1, if_pos (.inl c1)]; rfl
      · rw [decide_eq_false c1]
        by_cases c2 : e2 (valW l w a (i + 1)) < 0
        · rw [decide_eq_true c2, if_pos (.inr c2)]; rfl
        · rw [decide_eq_false c2, if_neg (fun h => h.elim c1 c2)]
          by_cases c3 : e2 (MP.sum (fun k => oadd (valW l w a k) (MP.rr (valW l w) ys (r - k))) (i + 1)) < 0
          · rw [decide_eq_true c3, if_pos (.inl c3)]; rfl
          · rw [decide_eq_false c3]
            by_cases c4 : w64 (e2 (valW l w a (i + 1)) + e2 (MP.rr (valW l w) ys (r - (i + 1)))) < e2 (MP.sum (fun k => oadd (valW l w a k) (MP.rr (valW l w) ys (r - k))) (i + 1))
            · rw [decide_eq_true c4, if_pos (.inr c4)]; rfl
            · rw [decide_eq_false c4, if_neg (fun h => h.elim c3 c4)]; rfl) (by
      have hle : decide (((r + 1 : Nat) : Int) ≤ (r : Int)) = false := decide_eq_false (by omega)
      simp only [synthesisref38_spread_l1, hle, cond_false]
      rfl)
    have hs0 : e2 (MP.sum (fun k => oadd (valW l w a k) (MP.rr (valW l w) ys (r - k))) (0 + 1)) = -1 := by
      rw [SR.sum, SR.sum]
      show e2 (omin none (oadd (valW l w a 0) (MP.rr (valW l w) ys (r - 0)))) = -1
      rw [show valW l w a 0 = none from rfl]
      cases MP.rr (valW l w) ys (r - 0) <;> rfl
    rw [hs0] at hL
    simp only [cond_false]
    rw [show loopN (synthesisref38_spread_l1 (bestL l w j) (a :: ys) (r : Int) (synthesisref38_spread n)) fuel (-1, 1) = _ from hL]
    rfl
end Go.Proofs.Ytpcfkflhnkfjjaa
