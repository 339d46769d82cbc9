/- The law CountingIndexes. -/
import Derived.Test.YtfkddbccogakoaaKo
set_option linter.unusedVariables false
set_option linter.unusedSimpArgs false
namespace Go.Proofs.Ytfkddbccogakoaa
open Go Go.RowKit

theorem plL_lt (l : La) (y : Int) (r : Nat) : ∀ n, r ≤ n → (plL l y n).filter (fun j : Nat => decide ((j : Int) < (r : Int))) = plL l y r
  | 0, h => by
    have : r = 0 := by omega
    subst this
    rfl
  | n + 1, h => by
    by_cases hr : r = n + 1
    · subst hr
      refine List.filter_eq_self.2 fun j hj => decide_eq_true ?_
      have := (plL_mem hj).1
      omega
    · rw [plL_succ, List.filter_append, plL_lt l y r n (by omega)]
      split
      · rw [List.filter_cons, if_neg (by simp; omega), List.filter_nil, List.append_nil]
      · rw [List.filter_nil, List.append_nil]
theorem idx_l1 {l : La} (hg : GoodL l) {size : Nat} (h24 : size ≤ 24) {rules : List Int} (hlen : rules.length = size) {y : Int} {tl : List Int} (htl : inR l tl) (hlong : tl.length ≤ 24) (n0 : Int) {q : Nat} (hq : q < size) {r : Nat} (hr : r ≤ l.rules.length) {a : Nat} (hb : a + NS.sum (fun i => if symAt l i = y then NS.rr (VN l) (argAt l i ++ tl) (size - q - 1) else 0) r ≤ 1152921504606846976) :
    loopN (synthesisref12_Index_l1 l rules (tabN (tabC l size) l.symbols.length (size + 1)) (y :: tl, n0, (q : Int)) (r : Int)) fuel ((a : Int), 0) = some ((a + NS.sum (fun i => if symAt l i = y then NS.rr (VN l) (argAt l i ++ tl) (size - q - 1) else 0) r : Nat) : Int) := by
  have h96 := hg.rules
  have hI0 : idx (y :: tl) 0 = some y := rfl
  have ew : w64 (w64 ((rules.length : Int) - (q : Int)) - 1) = ((size - q - 1 : Nat) : Int) := by
    rw [hlen, w64_eq (n := (size : Int) - (q : Int)) (by omega) (by omega), w64_eq (by omega) (by omega)]
    omega
  have h := loop_end (step := synthesisref12_Index_l1 l rules (tabN (tabC l size) l.symbols.length (size + 1)) (y :: tl, n0, (q : Int)) (r : Int)) r (by omega) (fun i => (((a + NS.sum (fun i => if symAt l i = y then NS.rr (VN l) (argAt l i ++ tl) (size - q - 1) else 0) i : Nat) : Int), (i : Int))) ((a + NS.sum (fun i => if symAt l i = y then NS.rr (VN l) (argAt l i ++ tl) (size - q - 1) else 0) r : Nat) : Int) (fun i hi => by
    obtain ⟨z, hz, hzs, hza, hmem⟩ := rule_at l (show i < l.rules.length by omega)
    have gz := hg.good z hmem
    have hf5 := gz.few
    have hin : inR l (argAt l i ++ tl) := fun b hb => by
      rcases List.mem_append.1 hb with hb | hb
      · rw [← hza] at hb; exact gz.args b hb
      · exact htl b hb
    have hl2 : (argAt l i ++ tl).length ≤ 100 := by rw [List.length_append, ← hza]; omega
    have hrest := rest_eq 8 z.args tl (y :: tl) (cut_tail y tl) (by omega)
    have hways := ways_eq (T := tabC l size) (ns := l.symbols.length) (M := size + 1) (p := size - q - 1) (by omega) (by omega) (fun b => by rw [tabC_lo l size b 0 (by omega)]; rfl) (argAt l i ++ tl) (by omega) hin
    have hrr : NS.rr (tabC l size) (argAt l i ++ tl) (size - q - 1) = NS.rr (VN l) (argAt l i ++ tl) (size - q - 1) := NS.rr_congr _ _ fun b _ k hk => tabC_lo l size b k (by omega)
    rw [hrr] at hways
    have hmono := sum_mono (fun i => if symAt l i = y then NS.rr (VN l) (argAt l i ++ tl) (size - q - 1) else 0) (show i + 1 ≤ r by omega)
    have hsucc : NS.sum (fun i => if symAt l i = y then NS.rr (VN l) (argAt l i ++ tl) (size - q - 1) else 0) (i + 1) = NS.sum (fun i => if symAt l i = y then NS.rr (VN l) (argAt l i ++ tl) (size - q - 1) else 0) i + (if symAt l i = y then NS.rr (VN l) (argAt l i ++ tl) (size - q - 1) else 0) := rfl
    unfold synthesisref12_Index_l1
    simp only
    rw [lt_len hi, cond_true, idx_nat, hz, Option.bind_some, hI0, Option.bind_some, Option.bind_some, hrest, Option.bind_some, hza, ew, hways, w64_succ' hi (by omega)]
    by_cases hs : symAt l i = y
    · rw [if_pos hs] at hsucc
      rw [show (z.symbol == y) = true by rw [beq_iff_eq, hzs, hs]]
      have hen : en (NS.rr (VN l) (argAt l i ++ tl) (size - q - 1)) = ((NS.rr (VN l) (argAt l i ++ tl) (size - q - 1) : Nat) : Int) := by unfold en; omega
      simp only [cond_true, Option.bind_some, hen]
      rw [w64_eq (by omega) (by omega)]
      congr 3
      omega
    · rw [if_neg hs] at hsucc
      rw [show (z.symbol == y) = false by rw [beq_eq_false_iff_ne, hzs]; exact hs]
      simp only [cond_false, Option.bind_some]
      congr 3
      omega) (by
    unfold synthesisref12_Index_l1
    simp only
    rw [lt_len', cond_false])
  exact h
theorem index_ref {l : La} (hg : GoodL l) (hc : synthesisref11_Check l = some 0) {s : Int} {t : Tm} (s0 : 0 ≤ s) (s1 : s < (l.symbols.length : Int)) (hi : isT l t s = true) (h24 : t.size ≤ 24) (hx : ¬ (1152921504606846976 : Int) < en (VN l s t.size)) : loopN (synthesisref12_Index_l2 l t.rules (tabN (tabC l t.size) l.symbols.length (t.size + 1))) fuel ([s], 0, 0) = some ((befN l t.size [s] [t] : Nat) : Int) := by
  have hen := en_small hx
  have hin : inR l [s] := fun y hy => by rcases List.mem_cons.1 hy with rfl | hy; exact ⟨s0, s1⟩; cases hy
  have hisl : isL l [t] [s] = true := by rw [isL, isL, hi]; rfl
  have hrl : t.rules.length = t.size := Tm.rules_length t
  obtain ⟨v, v1, v2⟩ := loop_ex2 (step := synthesisref12_Index_l2 l t.rules (tabN (tabC l t.size) l.symbols.length (t.size + 1))) t.size (by omega)
    (fun q st => ∃ (ts : List Tm) (a : Nat), st.2.1 = (a : Int) ∧ st.2.2 = (q : Int) ∧ isL l ts st.1 = true ∧ inR l st.1 ∧ Tm.sizeL ts = t.size - q ∧ t.rules.drop q = Tm.preL Tm.rule ts ∧ a + befN l (t.size - q) st.1 ts = befN l t.size [s] [t] ∧ a + NS.rr (VN l) st.1 (t.size - q) ≤ 1152921504606846976)
    (fun v => v = ((befN l t.size [s] [t] : Nat) : Int)) (fun q st hq hp => by
      left
      obtain ⟨op, cur, j⟩ := st
      obtain ⟨ts, a, p1, p2, p3, p4, p5, p6, p7, p8⟩ := hp
      simp only at p1 p2 p3 p4 p7 p8
      subst p1 p2
      obtain ⟨k, hk⟩ : ∃ k, t.size - q = k + 1 := ⟨t.size - q - 1, by omega⟩
      rw [hk] at p5 p7 p8
      have hk1 : t.size - q - 1 = k := by omega
      have hk2 : t.size - (q + 1) = k := by omega
      cases ts with
      | nil => cases p5
      | cons u us =>
        cases op with
        | nil => rw [isL] at p3; cases p3
        | cons y tl =>
          obtain ⟨i, pre, post, e0, e1, e2⟩ := is_at p3
          have hsz : Tm.sizeL (u.args ++ us) = k := by
            have : Tm.sizeL (u :: us) = u.size + Tm.sizeL us := rfl
            rw [sizeL_app]
            have := sizeT_args (t := u)
            omega
          have hlen := isL_len l _ _ p3
          have hsl := Tm.sizeL_len (u :: us)
          rw [List.length_cons, List.length_cons] at hlen
          rw [List.length_cons] at hsl
          have htl : inR l tl := fun z hz => p4 z (List.mem_cons_of_mem _ hz)
          have hpm := plL_mem (show i ∈ plL l y l.rules.length by rw [e1]; simp)
          obtain ⟨z, hz, hzs, hza, hmem⟩ := rule_at l hpm.1
          have gz := hg.good z hmem
          have hf5 := gz.few
          have hin2 : inR l (argAt l i ++ tl) := fun b hb => by
            rcases List.mem_append.1 hb with hb | hb
            · rw [← hza] at hb; exact gz.args b hb
            · exact htl b hb
          have hbef : befN l (k + 1) (y :: tl) (u :: us) = ((plL l y i).map fun i => NS.rr (VN l) (argAt l i ++ tl) k).sum + befN l k (argAt l i ++ tl) (u.args ++ us) := by
            rw [befN, e0, plL_lt l y i _ (by omega), Int.toNat_natCast]
          have htot := rr_head l y tl k
          have hpre : pre = plL l y i := by
            have h1 := filter_pre e1 (plL_sorted l y l.rules.length)
            rw [plL_lt l y i _ (by omega)] at h1
            exact h1.symm
          rw [e1, List.map_append, List.sum_append, List.map_cons, List.sum_cons, hpre] at htot
          have hsum := sum_plL l y (fun i => NS.rr (VN l) (argAt l i ++ tl) k) i
          have hl1 := idx_l1 hg (size := t.size) h24 hrl (y := y) htl (by omega) (a : Int) hq (r := i) (by omega) (a := a) (by rw [hk1, ← hsum]; omega)
          rw [hk1, ← hsum] at hl1
          have hdrop : t.rules.drop q = (i : Int) :: Tm.preL Tm.rule (u.args ++ us) := by
            rw [p6]
            show u.pre Tm.rule ++ Tm.preL Tm.rule us = _
            rw [pre_mk, preL_app, e0]
            rfl
          have hget : t.rules[q]? = some (i : Int) := by
            have := List.getElem?_drop (xs := t.rules) (i := q) (j := 0)
            rw [hdrop] at this
            simpa using this.symm
          have hrest := rest_eq 8 z.args tl (y :: tl) (cut_tail y tl) (by omega)
          refine ⟨(argAt l i ++ tl, ((a + ((plL l y i).map fun i => NS.rr (VN l) (argAt l i ++ tl) k).sum : Nat) : Int), ((q + 1 : Nat) : Int)), ?_, u.args ++ us, a + ((plL l y i).map fun i => NS.rr (VN l) (argAt l i ++ tl) k).sum, rfl, rfl, e2, hin2, by rw [hk2]; exact hsz, ?_, by rw [hk2]; show _ + befN l k (argAt l i ++ tl) (u.args ++ us) = _; omega, by rw [hk2]; show _ + NS.rr (VN l) (argAt l i ++ tl) k ≤ _; omega⟩
          · unfold synthesisref12_Index_l2
            simp only
            rw [hrl, lt_len hq, cond_true, idx_nat, hget, Option.bind_some, hl1, Option.bind_some, idx_nat, hz, Option.bind_some, hrest, Option.bind_some, w64_succ' hq (by omega), hza]
          · have : t.rules.drop (q + 1) = (t.rules.drop q).drop 1 := by rw [List.drop_drop]
            rw [this, hdrop]
            rfl) (fun st hp => by
      obtain ⟨op, cur, j⟩ := st
      obtain ⟨ts, a, p1, p2, p3, p4, p5, p6, p7, p8⟩ := hp
      simp only at p1 p2 p3 p4 p7 p8
      subst p1 p2
      rw [Nat.sub_self] at p7
      have h0 : befN l 0 op ts = 0 := by unfold befN; rfl
      refine ⟨(a : Int), ?_, by rw [← p7, h0, Nat.add_zero]⟩
      unfold synthesisref12_Index_l2
      simp only
      rw [hrl, lt_len', cond_false]) ([s], 0, 0) ⟨[t], 0, rfl, rfl, hisl, hin, by show t.size + 0 = _; omega, by rw [List.drop_zero]; show t.rules = t.pre Tm.rule ++ []; rw [List.append_nil]; rfl, by rw [Nat.sub_zero]; show 0 + befN l t.size [s] [t] = _; omega, by rw [Nat.sub_zero]; show 0 + NS.rr (VN l) [s] t.size ≤ _; rw [rr_sing]; omega⟩
  rw [v1, v2]
end Go.Proofs.Ytfkddbccogakoaa
set_option linter.unusedVariables false
set_option linter.unusedSimpArgs false
namespace Go.Proofs.Ytfkddbccogakoaa
open Go Go.RowKit

theorem errC_ok {l : La} {s k : Int} (h0 : 0 ≤ s) (h1 : s < (l.symbols.length : Int)) (h2 : 1 ≤ k) (h3 : k ≤ 24) : errC l 0 s k = 0 := by
  unfold errC badQ
  rw [if_neg (by simp), decide_eq_false (by omega), decide_eq_false (by omega), decide_eq_false (by omega), decide_eq_false (by omega)]
  rfl
theorem index_both (l : La) (s : Int) (t : Tm) (hl : wideL l) (ht : t.size ≤ 60) : ∃ o, counting_Index l s t = some o ∧ synthesisref12_Index l s t = some o := by
  obtain ⟨c, c1, c2, c3⟩ := lang_u l hl
  have hw := wrong_c c2 s 1
  by_cases hc : c = 0
  · subst hc
    have hg := c3 rfl
    by_cases hr : s < 0 ∨ (l.symbols.length : Int) ≤ s
    · have he : errC l 0 s 1 = 1 := by
        unfold errC badQ
        rw [if_neg (by simp)]
        rcases hr with hr | hr
        · rw [decide_eq_true hr]; rfl
        · rw [decide_eq_true hr]; simp
      rw [he] at hw
      refine ⟨(0, 1), ?_, ?_⟩
      · unfold counting_Index
        rw [c1, Option.bind_some, bne_self_eq_false, cond_false]
        rcases hr with hr | hr
        · rw [decide_eq_true hr]; rfl
        · rw [decide_eq_true hr]; cases decide (s < 0) <;> rfl
      · unfold synthesisref12_Index
        rw [hw]
        rfl
    · have he : errC l 0 s 1 = 0 := errC_ok (by omega) (by omega) (by omega) (by omega)
      rw [he] at hw
      have hm := measure_all hg fuel t s (Nat.le_of_lt (lt_fuel (by omega))) (by omega)
      have hi := is12 hg fuel t s (Nat.le_of_lt (lt_fuel (by omega))) (by omega)
      have hrules := rules12 fuel t (Nat.le_of_lt (lt_fuel (by omega))) (by omega)
      have hrl : t.rules.length = t.size := Tm.rules_length t
      have hpos := Tm.size_pos t
      unfold counting_Index synthesisref12_Index
      rw [c1, hw, hm, hi, hrules]
      simp only [Option.bind_some, bne_self_eq_false, cond_false, decide_eq_false (show ¬ s < 0 by omega), decide_eq_false (show ¬ (l.symbols.length : Int) ≤ s by omega)]
      cases hit : isT l t s with
      | false => exact ⟨(0, 4), rfl, rfl⟩
      | true =>
        simp only [if_true, Bool.not_true, cond_false, hrl]
        by_cases h24 : 24 < t.size
        · rw [decide_eq_true (show (24 : Int) < (t.size : Int) by omega)]
          exact ⟨(0, 1), rfl, rfl⟩
        · rw [decide_eq_false (show ¬ (24 : Int) < (t.size : Int) by omega)]
          simp only [cond_false]
          have hcp := count_prog (s := s) (k := (t.size : Int)) hg c1
          have hcr := count_ref (s := s) (k := (t.size : Int)) hg c2
          rw [errC_ok (by omega) (by omega) (by omega) (by omega), if_neg (by simp), Int.toNat_natCast] at hcp hcr
          rw [hcp, hcr, Option.bind_some, Option.bind_some]
          by_cases hx : (1152921504606846976 : Int) < en (VN l s t.size)
          · have ha : ansC (VN l s t.size) = (0, 11) := by unfold ansC; rw [if_pos hx]
            rw [ha]
            exact ⟨(0, 11), rfl, rfl⟩
          · have ha : ansC (VN l s t.size) = (en (VN l s t.size), 0) := by unfold ansC; rw [if_neg hx]
            have hen := en_small hx
            have hin : inR l [s] := fun y hy => by rcases List.mem_cons.1 hy with rfl | hy; exact ⟨by omega, by omega⟩; cases hy
            have hisl : isL l [t] [s] = true := by rw [isL, isL, hit]; rfl
            have hsz : Tm.sizeL [t] = t.size := by show t.size + 0 = _; omega
            obtain ⟨_, m', b1, _⟩ := before_ok hg fuel t.size [s] [t] [] (lt_fuel (by omega)) (by omega) hin hisl hsz (by rw [rr_sing]; omega) (KI.nil _)
            have hir := index_ref hg c2 (show 0 ≤ s by omega) (show s < (l.symbols.length : Int) by omega) hit (by omega) hx
            refine ⟨(((befN l t.size [s] [t] : Nat) : Int), 0), ?_, ?_⟩
            · rw [ha]
              simp only [bne_self_eq_false, cond_false]
              rw [open_eq, Option.bind_some, b1, Option.bind_some]
            · rw [ha]
              simp only [bne_self_eq_false, cond_false]
              rw [table_eq hg (by omega), Option.bind_some, hir, Option.bind_some]
  · have hb : (c != 0) = true := by rw [bne_iff_ne]; exact hc
    rw [bad_err hc] at hw
    refine ⟨(0, c), ?_, ?_⟩
    · unfold counting_Index; rw [c1, Option.bind_some, hb]; rfl
    · unfold synthesisref12_Index; rw [hw, Option.bind_some, hb]; rfl
theorem law_CountingIndexes (l : La) (s : Int) (t : Tm) (hl : wideL l) (_ : InI64 s) (_ : True) : synthesislaw12_CountingIndexes l s t = some true := by
  obtain ⟨b, b1, b2⟩ := small_term l t
  unfold synthesislaw12_CountingIndexes
  rw [b1, awake12, Option.bind_some]
  cases b with
  | false => rfl
  | true =>
    obtain ⟨o, o1, o2⟩ := index_both l s t hl (b2 rfl).2.2
    rw [o1, o2]
    simp only [Bool.not_true, cond_false, Option.bind_some, beq_self_eq_true, cond_true]
end Go.Proofs.Ytfkddbccogakoaa
