/- The law WeightLeasts. -/
import Derived.Test.YtpcfkflhnkfjjaaWg
set_option linter.unusedVariables false
set_option linter.unusedSimpArgs false
namespace Go.Proofs.Ytpcfkflhnkfjjaa
open Go Go.RowKit

theorem comb3 {x r : ON} {v : Nat} (hr : BN 100000 r) (hv : v ≤ 100000) : (if 0 ≤ e2 r ∧ (e2 x < 0 ∨ w64 (e2 r + (v : Int)) < e2 x) then w64 (e2 r + (v : Int)) else e2 x) = e2 (omin x (oadd (some v) r)) := by
  cases r with
  | none => rw [if_neg (by intro h; exact absurd h.1 (by decide)), show oadd (some v) none = none from rfl, omin_none]
  | some r =>
    have h1 := hr r rfl
    have e3 : e2 (some r) = (r : Int) := rfl
    rw [e3, w64_eq (by omega) (by omega)]
    cases x with
    | none =>
      rw [if_pos ⟨by omega, .inl (by decide)⟩]
      show (r : Int) + (v : Int) = ((v + r : Nat) : Int)
      omega
    | some x =>
      have e5 : e2 (some x) = (x : Int) := rfl
      rw [e5]
      show _ = ((min x (v + r) : Nat) : Int)
      split <;> omega
theorem comb4 {x y : ON} : (if 0 ≤ e2 y ∧ (e2 x < 0 ∨ e2 y < e2 x) then e2 y else e2 x) = e2 (omin x y) := by
  cases y with
  | none => rw [if_neg (by intro h; exact absurd h.1 (by decide)), omin_none]
  | some y =>
    have e3 : e2 (some y) = (y : Int) := rfl
    rw [e3]
    cases x with
    | none => rw [if_pos ⟨by omega, .inl (by decide)⟩]; rfl
    | some x =>
      have e5 : e2 (some x) = (x : Int) := rfl
      rw [e5]
      show _ = ((min x y : Nat) : Int)
      split <;> omega
def parW (l : La) (w : List Int) (n i : Nat) (s : Nat) : ON := MP.sum (fun j => if symAt l j = (s : Int) then oadd (wAt w j) (MP.rr (valW l w) (argAt l j) n) else none) i
theorem rowE_sym {f : Nat → ON} {ns : Nat} {s : Int} (h : 0 ≤ s ∧ s < (ns : Int)) : idx (rowE e2 f ns) s = some (e2 (f s.toNat)) := by
  obtain ⟨q, rfl⟩ := Int.eq_ofNat_of_zero_le h.1
  rw [idx_nat]
  exact rowE_at _ _ (by omega)
theorem refl_l1 {l : La} (hg : GoodL l) {w : List Int} (hw : ∀ x ∈ w, 0 ≤ x ∧ x ≤ 1000) (hlen : w.length = l.rules.length) {n : Nat} (hn : n ≤ 13) (z : Int) :
    loopN (synthesisref38_Least_l1 l w (z, ((n + 1 : Nat) : Int), bestL l w n)) fuel (0, rowE e2 (fun _ => none) l.symbols.length) = some (rowS l w (n + 1)) := by
  have h96 := hg.rules
  have h := loop_end (step := synthesisref38_Least_l1 l w (z, ((n + 1 : Nat) : Int), bestL l w n)) l.rules.length (by omega) (fun i => ((i : Int), rowE e2 (parW l w n i) l.symbols.length)) (rowS l w (n + 1)) (fun i hi => by
    obtain ⟨y, hy, hs, har, hmem⟩ := rule_at2 l hi
    have gy := hg.good y hmem
    obtain ⟨v, hv, hwi, hwa⟩ := wAt_some hw (i := i) (l := l) (by omega)
    have hsr : 0 ≤ y.symbol ∧ y.symbol < (l.symbols.length : Int) := ⟨gy.sym0, gy.sym1⟩
    have ew : w64 (((n + 1 : Nat) : Int) - 1) = (n : Int) := by rw [w64_eq (by omega) (by omega)]; omega
    have hf5 := gy.few
    have hsp := spread_eq hw n (by omega) fuel y.args n (lt_fuel (by omega)) (Nat.le_refl _) gy.args hf5
    have hb3 : BN 100000 (MP.rr (valW l w) y.args n) := (BN.rr (V := valW l w) y.args n fun a k _ => valW_bd hw a k).mono (by omega)
    have hc := comb3 (x := parW l w n i y.symbol.toNat) hb3 (show v ≤ 100000 by omega)
    have hset := rowE_set e2 (parW l w n i) l.symbols.length y.symbol.toNat (omin (parW l w n i y.symbol.toNat) (oadd (some v) (MP.rr (valW l w) y.args n)))
    have hnext : rowE e2 (fun m => if m = y.symbol.toNat then omin (parW l w n i y.symbol.toNat) (oadd (some v) (MP.rr (valW l w) y.args n)) else parW l w n i m) l.symbols.length = rowE e2 (parW l w n (i + 1)) l.symbols.length := rowE_congr _ fun m hm => by
      show _ = omin (parW l w n i m) (if symAt l i = (m : Int) then oadd (wAt w i) (MP.rr (valW l w) (argAt l i) n) else none)
      by_cases hmm : m = y.symbol.toNat
      · rw [if_pos hmm, if_pos (by rw [← hs]; omega), hwa, ← har, hmm]
      · rw [if_neg hmm, if_neg (by rw [← hs]; omega), omin_none]
    simp only [synthesisref38_Least_l1, lt_len hi, cond_true, idx_nat, hy, Option.bind_some, ew, hsp, rowE_sym hsr, hwi, w64_succ' hi (show l.rules.length ≤ 9223372036854775807 by omega)]
    rw [← hnext, ← hset, ← hc]
    by_cases c1 : 0 ≤ e2 (MP.rr (valW l w) y.args n)
    · rw [decide_eq_true c1]
      by_cases c2 : e2 (parW l w n i y.symbol.toNat) < 0
      · rw [decide_eq_true c2, if_pos ⟨c1, .inl c2⟩]; rfl
      · rw [decide_eq_false c2]
        by_cases c3 : w64 (e2 (MP.rr (valW l w) y.args n) + (v : Int)) < e2 (parW l w n i y.symbol.toNat)
        · rw [decide_eq_true c3, if_pos ⟨c1, .inr c3⟩]; rfl
        · rw [decide_eq_false c3, if_neg (fun h => h.2.elim c2 c3), rowE_set, show (fun m => if m = y.symbol.toNat then parW l w n i y.symbol.toNat else parW l w n i m) = parW l w n i from funext fun m => by split <;> simp_all]
          rfl
    · rw [decide_eq_false c1, if_neg (fun h => c1 h.1), rowE_set, show (fun m => if m = y.symbol.toNat then parW l w n i y.symbol.toNat else parW l w n i m) = parW l w n i from funext fun m => by split <;> simp_all]
      rfl) (by
    simp only [synthesisref38_Least_l1, lt_len', cond_false]
    congr 2
    refine rowE_congr _ fun m hm => ?_
    exact (MP.val_succ l.rules.length (symAt l) (argAt l) (wAt w) (m : Int) n).symm)
  exact h
theorem refl_l2 (ns : Nat) (hns : ns ≤ 16) : loopN synthesisref38_Least_l2 fuel (0, List.replicate ns 0) = some (rowE e2 (fun _ => none) ns) := by
  have h := loop_end (step := synthesisref38_Least_l2) ns (by omega) (fun i => ((i : Int), List.replicate i (-1 : Int) ++ List.replicate (ns - i) 0)) (rowE e2 (fun _ => none) ns) (fun i hi => by
    have hlen : (List.replicate i (-1 : Int) ++ List.replicate (ns - i) 0).length = ns := by rw [List.length_append, List.length_replicate, List.length_replicate]; omega
    have e1' : (List.replicate i (-1 : Int) ++ List.replicate (ns - i) 0)[i]? = some 0 := by
      rw [List.getElem?_append_right (by rw [List.length_replicate]; omega), List.length_replicate, Nat.sub_self, List.getElem?_replicate, if_pos (by omega)]
    have e2' : (List.replicate i (-1 : Int) ++ List.replicate (ns - i) 0).set i (-1) = List.replicate (i + 1) (-1 : Int) ++ List.replicate (ns - (i + 1)) 0 := by
      rw [List.set_append_right _ _ (by rw [List.length_replicate]; omega), List.length_replicate, Nat.sub_self, show ns - i = (ns - (i + 1)) + 1 by omega, List.replicate_succ, List.set_cons_zero, List.replicate_succ', List.append_assoc]
      rfl
    simp only [synthesisref38_Least_l2, hlen, lt_len hi, cond_true, idx_nat, e1', Option.bind_some, w64_succ' hi (show ns ≤ 9223372036854775807 by omega), Int.toNat_natCast, e2']) (by
    have hlen : (List.replicate ns (-1 : Int) ++ List.replicate (ns - ns) 0).length = ns := by simp
    simp only [synthesisref38_Least_l2, hlen, lt_len', cond_false]
    congr 2
    rw [Nat.sub_self, List.replicate_zero, List.append_nil]
    exact rep_row e2 none ns)
  rw [Nat.sub_zero, List.replicate_zero, List.nil_append] at h
  exact h
theorem refl_l3 {l : La} (hg : GoodL l) {w : List Int} (hw : ∀ x ∈ w, 0 ≤ x ∧ x ≤ 1000) (hlen : w.length = l.rules.length) {s : Int} (hs : 0 ≤ s ∧ s < (l.symbols.length : Int)) {most : Nat} (hm : most ≤ 14) :
    loopN (synthesisref38_Least_l3 l w s (most : Int)) fuel (-1, 1, [[]]) = some (e2 (MP.sum (valW l w s) (most + 1))) := by
  have h16 := hg.sym16
  have h := loop_end (step := synthesisref38_Least_l3 l w s (most : Int)) most (by omega) (fun j => (e2 (MP.sum (valW l w s) (j + 1)), ((j + 1 : Nat) : Int), bestL l w j)) (e2 (MP.sum (valW l w s) (most + 1))) (fun j hj => by
    have hle : decide (((j + 1 : Nat) : Int) ≤ (most : Int)) = true := decide_eq_true (by omega)
    have ew : w64 (((j + 1 : Nat) : Int) + 1) = ((j + 1 + 1 : Nat) : Int) := by rw [w64_eq (by omega) (by omega)]; omega
    have hbl := bestL_len l w j
    have happ : app 24 (bestL l w j) [rowS l w (j + 1)] = some (bestL l w (j + 1)) := by
      rw [app_eq (by rw [hbl, List.length_singleton]; omega)]
      congr 1
      unfold bestL
      rw [List.range_succ, List.map_append]
      rfl
    have hc := comb4 (x := MP.sum (valW l w s) (j + 1)) (y := valW l w s (j + 1))
    have hgoal : e2 (MP.sum (valW l w s) (j + 1 + 1)) = e2 (omin (MP.sum (valW l w s) (j + 1)) (valW l w s (j + 1))) := rfl
    simp only [hgoal, ← hc]
    simp only [synthesisref38_Least_l3, hle, cond_true, mkL_eq 8 (0 : Int) l.symbols.length (by omega), Option.bind_some, refl_l2 l.symbols.length h16, refl_l1 hg hw hlen (show j ≤ 13 by omega), happ, rowS_at l w (j + 1) hs, ew]
    by_cases c1 : 0 ≤ e2 (valW l w s (j + 1))
    · rw [decide_eq_true c1]
      by_cases c2 : e2 (MP.sum (valW l w s) (j + 1)) < 0
      · rw [decide_eq_true c2, if_pos ⟨c1, .inl c2⟩]; rfl
      · rw [decide_eq_false c2]
        by_cases c3 : e2 (valW l w s (j + 1)) < e2 (MP.sum (valW l w s) (j + 1))
        · rw [decide_eq_true c3, if_pos ⟨c1, .inr c3⟩]; rfl
        · rw [decide_eq_false c3, if_neg (fun h => h.2.elim c2 c3)]; rfl
    · rw [decide_eq_false c1, if_neg (fun h => c1 h.1)]; rfl) (by
    have hle : decide (((most + 1 : Nat) : Int) ≤ (most : Int)) = false := decide_eq_false (by omega)
    simp only [synthesisref38_Least_l3, hle, cond_false])
  exact h
theorem least_ref {l : La} (hg : GoodL l) {w : List Int} (hc : synthesisref38_Check l w = some 0) (hw : ∀ x ∈ w, 0 ≤ x ∧ x ≤ 1000) (hlen : w.length = l.rules.length) {s : Int} (hs : 0 ≤ s ∧ s < (l.symbols.length : Int)) {most : Nat} (h1 : 1 ≤ most) (hm : most ≤ 14) :
    synthesisref38_Least l w s (most : Int) = some (ansW (MP.sum (valW l w s) (most + 1))) := by
  unfold synthesisref38_Least
  rw [hc, decide_eq_false (show ¬ s < 0 by omega), decide_eq_false (show ¬ (l.symbols.length : Int) ≤ s by omega), decide_eq_false (show ¬ (most : Int) < 1 by omega), decide_eq_false (show ¬ (24 : Int) < (most : Int) by omega)]
  simp only [bne_self_eq_false, cond_false, Option.bind_some, refl_l3 hg hw hlen hs hm]
  cases MP.sum (valW l w s) (most + 1) with
  | none => rfl
  | some v =>
    show (bif decide ((v : Int) < 0) then some (0, 12) else some ((v : Int), 0)) = _
    rw [decide_eq_false (by omega)]
    rfl
theorem rangeW (l : La) (s m : Int) : ((bif decide (s < 0) then some true else bif decide ((l.symbols.length : Int) ≤ s) then some true else bif decide (m < 1) then some true else some (decide (24 < m))) : Option Bool) = some (decide (s < 0 ∨ (l.symbols.length : Int) ≤ s ∨ m < 1 ∨ 24 < m)) := by
  simp only [Bool.decide_or]
  cases decide (s < 0) <;> cases decide ((l.symbols.length : Int) ≤ s) <;> cases decide (m < 1) <;> cases decide (24 < m) <;> rfl
theorem law_WeightLeasts (l : La) (w : List Int) (x : S_synthesislaw38_Want) (hl : wideL l) (hw : w.length ≤ 9223372036854775807) (_ : True) : synthesislaw38_WeightLeasts l w x = some true := by
  obtain ⟨b, hb, hf⟩ := few_some l w
  unfold synthesislaw38_WeightLeasts
  rw [hb, awake38]
  simp only [Option.bind_some]
  cases b with
  | false => rfl
  | true =>
    simp only [Bool.not_true, cond_false]
    by_cases h14 : 14 < x.f_Most ∧ x.f_Most ≤ 24
    · rw [decide_eq_true h14.1, decide_eq_true h14.2]; rfl
    · have hguard : ((bif decide (14 < x.f_Most) then some (decide (x.f_Most ≤ 24)) else some false) : Option Bool) = some false := by
        by_cases h : 14 < x.f_Most
        · rw [decide_eq_true h, decide_eq_false (fun h2 => h14 ⟨h, h2⟩)]; rfl
        · rw [decide_eq_false h]; rfl
      rw [hguard]
      simp only [Option.bind_some, cond_false]
      obtain ⟨c, c1, c2, c3⟩ := wcheck_both l w hl hw
      have both : ∃ o, weight_Least l w x.f_Symbol x.f_Most = some o ∧ synthesisref38_Least l w x.f_Symbol x.f_Most = some o := by
        by_cases hc : c = 0
        · subst hc
          obtain ⟨hg, hlen, hwr⟩ := c3 rfl
          by_cases hr : x.f_Symbol < 0 ∨ (l.symbols.length : Int) ≤ x.f_Symbol ∨ x.f_Most < 1 ∨ 24 < x.f_Most
          · refine ⟨(0, 1), ?_, ?_⟩
            · unfold weight_Least
              rw [c1, rangeW, decide_eq_true hr]
              rfl
            · unfold synthesisref38_Least
              rw [c2, rangeW, decide_eq_true hr]
              rfl
          · obtain ⟨n, hn⟩ : ∃ n : Nat, x.f_Most = (n : Int) := Int.eq_ofNat_of_zero_le (by omega)
            rw [hn] at hr h14 ⊢
            have hs : 0 ≤ x.f_Symbol ∧ x.f_Symbol < (l.symbols.length : Int) := by omega
            exact ⟨_, least_prog hg c1 hwr hlen hs (by omega) (by omega), least_ref hg c2 hwr hlen hs (by omega) (by omega)⟩
        · refine ⟨(0, c), ?_, ?_⟩
          · unfold weight_Least
            rw [c1]
            simp only [Option.bind_some]
            rw [show (c != 0) = true by rw [bne_iff_ne]; exact hc]
            rfl
          · unfold synthesisref38_Least
            rw [c2]
            simp only [Option.bind_some]
            rw [show (c != 0) = true by rw [bne_iff_ne]; exact hc]
            rfl
      obtain ⟨o, o1, o2⟩ := both
      rw [o1, o2]
      simp only [Option.bind_some, beq_self_eq_true, cond_true]
end Go.Proofs.Ytpcfkflhnkfjjaa
