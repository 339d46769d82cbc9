/- The reference reads a term from its rules; the law CountingTerms. -/
import Derived.Test.YtfkddbccogakoaaKo
set_option linter.unusedVariables false
set_option linter.unusedSimpArgs false
namespace Go.Proofs.Ytfkddbccogakoaa
open Go Go.RowKit

theorem plL_lt (l : La) (y : Int) (r : Nat) : ∀ n, r ≤ n → (plL l y n).filter (fun j : Nat => decide ((j : Int) < (r : Int))) = plL l y r
  | 0, h => by
    have : r = 0 := by omega
    subst this
    rfl
  | n + 1, h => by
    by_cases hr : r = n + 1
    · subst hr
      refine List.filter_eq_self.2 fun j hj => decide_eq_true ?_
      have := (plL_mem hj).1
      omega
    · rw [plL_succ, List.filter_append, plL_lt l y r n (by omega)]
      split
      · rw [List.filter_cons, if_neg (by simp; omega), List.filter_nil, List.append_nil]
      · rw [List.filter_nil, List.append_nil]
end Go.Proofs.Ytfkddbccogakoaa
set_option linter.unusedVariables false
set_option linter.unusedSimpArgs false
namespace Go.Proofs.Ytfkddbccogakoaa
open Go Go.RowKit

end Go.Proofs.Ytfkddbccogakoaa
set_option linter.unusedVariables false
set_option linter.unusedSimpArgs false
namespace Go.Proofs.Ytfkddbccogakoaa
open Go Go.RowKit

theorem term_l1 {l : La} (hg : GoodL l) {size : Nat} (h24 : size ≤ 24) {y : Int} {tl : List Int} (htl : inR l tl) (hlong : tl.length ≤ 24) {k n i n' : Nat} {pre post : List Nat} (hk : k < size) (h1 : plL l y l.rules.length = pre ++ i :: post) (h2 : n' < NS.rr (VN l) (argAt l i ++ tl) k) (h3 : n = (pre.map fun i => NS.rr (VN l) (argAt l i ++ tl) k).sum + n') (h60 : n ≤ 1152921504606846976) (n0 : Int) (op0 : List Int) (rs : List Int) (hrs : rs.length ≤ 1000) :
    loopN (synthesisref12_Term_l1 l (tabN (tabC l size) l.symbols.length (size + 1)) (n0, op0, ((k + 1 : Nat) : Int), rs)) fuel ((n : Int), y :: tl, 0) = some ((n' : Int), argAt l i ++ tl, rs ++ [(i : Int)]) := by
  have h96 := hg.rules
  have hI0 : idx (y :: tl) 0 = some y := rfl
  have hpm := plL_mem (show i ∈ plL l y l.rules.length by rw [h1]; simp)
  have ew : w64 (((k + 1 : Nat) : Int) - 1) = (k : Int) := by rw [w64_eq (by omega) (by omega)]; omega
  have hpre : pre = plL l y i := by
    have h := filter_pre h1 (plL_sorted l y l.rules.length)
    rw [plL_lt l y i _ (by omega)] at h
    exact h.symm
  have hsum : (pre.map fun i => NS.rr (VN l) (argAt l i ++ tl) k).sum = NS.sum (fun i => if symAt l i = y then NS.rr (VN l) (argAt l i ++ tl) k else 0) i := by rw [hpre]; exact sum_plL l y _ i
  have one : ∀ j, j < l.rules.length → ∃ z, l.rules[j]? = some z ∧ z.symbol = symAt l j ∧ z.args = argAt l j ∧ (bif List.isEmpty z.args then Option.bind (cutL (y :: tl) 1 (((y :: tl).length : Nat) : Int)) fun v12 => bif List.isEmpty v12 then some [] else Option.bind (appN 8 [] v12) fun v13 => some v13 else Option.bind (appN 8 [] z.args) fun v9 => Option.bind (cutL (y :: tl) 1 (((y :: tl).length : Nat) : Int)) fun v10 => Option.bind (app 8 v9 v10) fun v11 => some v11 : Option (List Int)) = some (argAt l j ++ tl) ∧ synthesisref12_ways (tabN (tabC l size) l.symbols.length (size + 1)) (argAt l j ++ tl) (k : Int) = some (en (NS.rr (VN l) (argAt l j ++ tl) k)) := fun j hj => by
    obtain ⟨z, hz, hzs, hza, hmem⟩ := rule_at l hj
    have gz := hg.good z hmem
    have hf5 := gz.few
    have hin : inR l (argAt l j ++ tl) := fun b hb => by
      rcases List.mem_append.1 hb with hb | hb
      · rw [← hza] at hb; exact gz.args b hb
      · exact htl b hb
    have hl2 : (argAt l j ++ tl).length ≤ 100 := by rw [List.length_append, ← hza]; omega
    have hways := ways_eq (T := tabC l size) (ns := l.symbols.length) (M := size + 1) (p := k) (by omega) (by omega) (fun b => by rw [tabC_lo l size b 0 (by omega)]; rfl) (argAt l j ++ tl) (by omega) hin
    have hrr : NS.rr (tabC l size) (argAt l j ++ tl) k = NS.rr (VN l) (argAt l j ++ tl) k := NS.rr_congr _ _ fun b _ q hq => tabC_lo l size b q (by omega)
    rw [hrr] at hways
    have hrest := rest_eq 8 z.args tl (y :: tl) (cut_tail y tl) (by omega)
    rw [hza] at hrest
    exact ⟨z, hz, hzs, hza, by rw [hza]; exact hrest, hways⟩
  obtain ⟨v, v1, v2⟩ := loop_ex2 (step := synthesisref12_Term_l1 l (tabN (tabC l size) l.symbols.length (size + 1)) (n0, op0, ((k + 1 : Nat) : Int), rs)) i (by omega)
    (fun j st => ∃ a : Nat, st = ((a : Int), y :: tl, (j : Int)) ∧ a + NS.sum (fun i => if symAt l i = y then NS.rr (VN l) (argAt l i ++ tl) k else 0) j = n) (fun v => v = ((n' : Int), argAt l i ++ tl, rs ++ [(i : Int)])) (fun j st hj hp => by
      left
      obtain ⟨a, rfl, ha⟩ := hp
      obtain ⟨z, o1, o2, o3, o4, o5⟩ := one j (by omega)
      have hmono := sum_mono (fun i => if symAt l i = y then NS.rr (VN l) (argAt l i ++ tl) k else 0) (show j + 1 ≤ i by omega)
      have hsucc : NS.sum (fun i => if symAt l i = y then NS.rr (VN l) (argAt l i ++ tl) k else 0) (j + 1) = NS.sum (fun i => if symAt l i = y then NS.rr (VN l) (argAt l i ++ tl) k else 0) j + (if symAt l j = y then NS.rr (VN l) (argAt l j ++ tl) k else 0) := rfl
      have ej := w64_succ' (show j < l.rules.length by omega) (by omega)
      by_cases hs : symAt l j = y
      · rw [if_pos hs] at hsucc
        have hen : en (NS.rr (VN l) (argAt l j ++ tl) k) = ((NS.rr (VN l) (argAt l j ++ tl) k : Nat) : Int) := by unfold en; omega
        refine ⟨(((a - NS.rr (VN l) (argAt l j ++ tl) k : Nat) : Int), y :: tl, ((j + 1 : Nat) : Int)), ?_, _, rfl, by omega⟩
        unfold synthesisref12_Term_l1
        simp only
        rw [lt_len (show j < l.rules.length by omega), cond_true, idx_nat, o1, Option.bind_some, hI0, Option.bind_some, show (z.symbol != y) = false by rw [o2, hs]; exact bne_self_eq_false y, cond_false, o4, Option.bind_some, ew, o5, Option.bind_some, hen, decide_eq_false (show ¬ (a : Int) < ((NS.rr (VN l) (argAt l j ++ tl) k : Nat) : Int) by omega), cond_false, w64_eq (by omega) (by omega), ej]
        simp only [Option.bind_some, Sum.elim_inl]
        congr 3
        omega
      · rw [if_neg hs] at hsucc
        refine ⟨((a : Int), y :: tl, ((j + 1 : Nat) : Int)), ?_, a, rfl, by omega⟩
        unfold synthesisref12_Term_l1
        simp only
        rw [lt_len (show j < l.rules.length by omega), cond_true, idx_nat, o1, Option.bind_some, hI0, Option.bind_some, show (z.symbol != y) = true by rw [bne_iff_ne, o2]; exact hs, cond_true, ej]
        rfl) (fun st hp => by
      obtain ⟨a, rfl, ha⟩ := hp
      obtain ⟨z, o1, o2, o3, o4, o5⟩ := one i hpm.1
      have han : a = n' := by omega
      subst han
      refine ⟨((a : Int), argAt l i ++ tl, rs ++ [(i : Int)]), ?_, rfl⟩
      have happ : app 8 rs [(i : Int)] = some (rs ++ [(i : Int)]) := app_eq (by rw [List.length_singleton]; omega)
      unfold synthesisref12_Term_l1
      simp only
      rw [lt_len hpm.1, cond_true, idx_nat, o1, Option.bind_some, hI0, Option.bind_some, show (z.symbol != y) = false by rw [o2, hpm.2]; exact bne_self_eq_false y, cond_false, o4, Option.bind_some, ew, o5, Option.bind_some, decide_eq_true (show (a : Int) < en (NS.rr (VN l) (argAt l i ++ tl) k) by unfold en; omega), cond_true, happ]
      rfl) ((n : Int), y :: tl, 0) ⟨n, rfl, rfl⟩
  rw [v1, v2]
theorem term_l2 {l : La} (hg : GoodL l) {size : Nat} (h24 : size ≤ 24) {s : Int} (s0 : 0 ≤ s) (s1 : s < (l.symbols.length : Int)) {n : Nat} (hn : n < NS.rr (VN l) [s] size) (h60 : n ≤ 1152921504606846976) :
    loopN (synthesisref12_Term_l2 l (tabN (tabC l size) l.symbols.length (size + 1))) fuel ((n : Int), [s], (size : Int), []) = some (Tm.preL Tm.rule (chT l size [s] n)) := by
  have hin0 : inR l [s] := fun y hy => by
    rcases List.mem_cons.1 hy with rfl | hy
    · exact ⟨s0, s1⟩
    · cases hy
  obtain ⟨v, v1, v2⟩ := loop_ex2 (step := synthesisref12_Term_l2 l (tabN (tabC l size) l.symbols.length (size + 1))) size (by omega)
    (fun q st => ∃ a : Nat, st.1 = (a : Int) ∧ st.2.2.1 = ((size - q : Nat) : Int) ∧ inR l st.2.1 ∧ a < NS.rr (VN l) st.2.1 (size - q) ∧ a ≤ n ∧ st.2.2.2.length = q ∧ st.2.2.2 ++ Tm.preL Tm.rule (chT l (size - q) st.2.1 a) = Tm.preL Tm.rule (chT l size [s] n)) (fun v => v = Tm.preL Tm.rule (chT l size [s] n)) (fun q st hq hp => by
      left
      obtain ⟨cur, op, left, rs⟩ := st
      obtain ⟨a, p1, p2, p3, p4, p5, p6, p7⟩ := hp
      simp only at p1 p2 p3 p4 p6 p7
      subst p1 p2
      obtain ⟨k, hk⟩ : ∃ k, size - q = k + 1 := ⟨size - q - 1, by omega⟩
      have hk2 : size - (q + 1) = k := by omega
      rw [hk] at p4 p7
      cases op with
      | nil => exact (rr_nils p4).elim
      | cons y tl =>
        have htl : inR l tl := fun z hz => p3 z (List.mem_cons_of_mem _ hz)
        have hlong := rr_long p4
        rw [List.length_cons] at hlong
        obtain ⟨pre, i, post, n', a1, a2, a3, a4⟩ := chT_at l p4
        have hpm := plL_mem (show i ∈ plL l y l.rules.length by rw [a1]; simp)
        obtain ⟨z, hz, hzs, hza, hmem⟩ := rule_at l hpm.1
        have gz := hg.good z hmem
        have hin : inR l (argAt l i ++ tl) := fun b hb => by
          rcases List.mem_append.1 hb with hb | hb
          · rw [← hza] at hb; exact gz.args b hb
          · exact htl b hb
        have h1 := term_l1 hg h24 htl (by omega) (k := k) (by omega) a1 a2 a3 (by omega) (a : Int) (y :: tl) rs (by omega)
        rw [a4, preL_split] at p7
        refine ⟨((n' : Int), argAt l i ++ tl, (k : Int), rs ++ [(i : Int)]), ?_, n', rfl, by rw [hk2], hin, by rw [hk2]; exact a2, by omega, by show (rs ++ [(i : Int)]).length = q + 1; rw [List.length_append, List.length_singleton, p6], by rw [hk2]; show (rs ++ [(i : Int)]) ++ _ = _; rw [List.append_assoc]; exact p7⟩
        have ew : w64 (((k + 1 : Nat) : Int) - 1) = (k : Int) := by rw [w64_eq (by omega) (by omega)]; omega
        unfold synthesisref12_Term_l2
        simp only
        rw [hk, decide_eq_true (show (0 : Int) < (((y :: tl).length : Nat) : Int) by rw [List.length_cons]; omega), cond_true, h1, Option.bind_some, ew]) (fun st hp => by
      obtain ⟨cur, op, left, rs⟩ := st
      obtain ⟨a, p1, p2, p3, p4, p5, p6, p7⟩ := hp
      simp only at p1 p2 p3 p4 p6 p7
      rw [Nat.sub_self] at p4 p7
      have := rr_nil0 p4
      subst this
      refine ⟨rs, ?_, ?_⟩
      · unfold synthesisref12_Term_l2
        simp only
        rfl
      · have h0 : Tm.preL Tm.rule (chT l 0 [] a) = [] := rfl
        rw [h0, List.append_nil] at p7
        exact p7) ((n : Int), [s], (size : Int), []) ⟨n, rfl, by rw [Nat.sub_zero], hin0, by rw [Nat.sub_zero]; exact hn, Nat.le_refl _, rfl, by rw [Nat.sub_zero]; rfl⟩
  rw [v1, v2]
end Go.Proofs.Ytfkddbccogakoaa
set_option linter.unusedVariables false
set_option linter.unusedSimpArgs false
namespace Go.Proofs.Ytfkddbccogakoaa
open Go Go.RowKit

theorem tm_eta (t : Tm) : Tm.mk t.rule t.args = t := by cases t; rfl
theorem read_ok {l : La} (hg : GoodL l) : ∀ (f : Nat) (t : Tm) (s : Int) (more : List Int), t.size ≤ f → t.size ≤ 1000 → isT l t s = true → synthesisref12_reader_next_h2 f (S_synthesisref12_reader.mk l (t.rules ++ more)) = some (more, t.rule, t.args)
  | 0, t, s, more, h, _, _ => by have := Tm.size_pos t; omega
  | f + 1, t, s, more, h, h1000, hi => by
    have hsa := sizeT_args (t := t)
    have hlb := Tm.sizeL_len t.args
    obtain ⟨i, e0, e1, e2, e3⟩ := isT_at hi
    obtain ⟨y, hy, hys, hya, hmem⟩ := rule_at l e1
    have gy := hg.good y hmem
    have hlen := isL_len l _ _ e3
    have hr : t.rules ++ more = t.rule :: (Tm.preL Tm.rule t.args ++ more) := by
      show t.pre Tm.rule ++ more = _
      rw [pre_mk]
      rfl
    show synthesisref12_reader_next_h2_b (synthesisref12_reader_next_h2 f) (S_synthesisref12_reader.mk l (t.rules ++ more)) = _
    unfold synthesisref12_reader_next_h2_b
    simp only
    rw [hr, cut_tail]
    have hI0 : idx (t.rule :: (Tm.preL Tm.rule t.args ++ more)) 0 = some t.rule := rfl
    rw [hI0]
    simp only [Option.bind_some]
    rw [e0, idx_nat, hy]
    simp only [Option.bind_some]
    by_cases hk : y.kind = 3
    · rw [show (y.kind == 3) = true by rw [beq_iff_eq]; exact hk]
      simp only [cond_true]
      obtain ⟨v, v1, v2⟩ := loop_ex2 (step := synthesisref12_reader_next_h2_l1 (S_synthesisref12_reader.mk l ((i : Int) :: (Tm.preL Tm.rule t.args ++ more))) (synthesisref12_reader_next_h2 f) y) t.args.length (by omega)
        (fun q st => st = ((q : Int), Tm.preL Tm.rule (t.args.drop q) ++ more, t.args.take q)) (fun v => v = (more, t.args)) (fun q st hq hp => by
          left
          subst hp
          obtain ⟨a, g1, g2⟩ := isL_get l t.args _ q hq e3
          have hdrop : t.args.drop q = t.args[q] :: t.args.drop (q + 1) := List.drop_eq_getElem_cons hq
          have hsz := args_size (t := t) (List.getElem_mem hq)
          have hm := read_ok hg f t.args[q] a (Tm.preL Tm.rule (t.args.drop (q + 1)) ++ more) (by omega) (by omega) g2
          have happ : app 32 (t.args.take q) [t.args[q]] = some (t.args.take (q + 1)) := by
            rw [app_eq (by rw [List.length_take, List.length_singleton]; omega), List.take_succ_eq_append_getElem hq]
          refine ⟨(((q + 1 : Nat) : Int), Tm.preL Tm.rule (t.args.drop (q + 1)) ++ more, t.args.take (q + 1)), ?_, rfl⟩
          unfold synthesisref12_reader_next_h2_l1
          simp only
          rw [decide_eq_true (show (q : Int) < ((y.args.length : Nat) : Int) by rw [hya]; omega), cond_true, hdrop]
          have hp2 : Tm.preL Tm.rule (t.args[q] :: t.args.drop (q + 1)) ++ more = t.args[q].rules ++ (Tm.preL Tm.rule (t.args.drop (q + 1)) ++ more) := by
            show (t.args[q].pre Tm.rule ++ Tm.preL Tm.rule (t.args.drop (q + 1))) ++ more = _
            rw [List.append_assoc]
            rfl
          rw [hp2, hm]
          simp only [Option.bind_some]
          rw [tm_eta, happ]
          simp only [Option.bind_some]
          rw [w64_succ' (show q < 1000 by omega) (by omega)]) (fun st hp => by
          subst hp
          refine ⟨(more, t.args), ?_, rfl⟩
          unfold synthesisref12_reader_next_h2_l1
          simp only
          rw [decide_eq_false (show ¬ ((t.args.length : Nat) : Int) < ((y.args.length : Nat) : Int) by rw [hya]; omega), cond_false, List.drop_length, List.take_length]
          rfl) (0, Tm.preL Tm.rule t.args ++ more, []) rfl
      subst v2
      rw [v1]
      rfl
    · rw [show (y.kind == 3) = false by rw [beq_eq_false_iff_ne]; exact hk]
      have hno := gy.noargs hk
      rw [hya] at hno
      rw [hno] at hlen
      have hnil : t.args = [] := List.eq_nil_of_length_eq_zero hlen
      rw [hnil]
      rfl
theorem same_refl : ∀ (f : Nat) (t : Tm), t.size ≤ f → t.size ≤ 1000 → synthesisref12_Same f t t = some true
  | 0, t, h, _ => by have := Tm.size_pos t; omega
  | f + 1, t, h, h1000 => by
    have hsa := sizeT_args (t := t)
    have hlb := Tm.sizeL_len t.args
    show synthesisref12_Same_b (synthesisref12_Same f) t t = _
    unfold synthesisref12_Same_b
    rw [bne_self_eq_false, bne_self_eq_false]
    simp only [cond_false, Option.bind_some]
    obtain ⟨v, v1, v2⟩ := loop_ex2 (step := synthesisref12_Same_l1 t t (synthesisref12_Same f)) t.args.length (by omega) (fun q st => st = (q : Int)) (fun v => v = .inl ()) (fun q st hq hp => by
      left
      subst hp
      have hx : t.args[q]? = some t.args[q] := List.getElem?_eq_getElem hq
      have hsz := args_size (t := t) (List.getElem_mem hq)
      have hm := same_refl f t.args[q] (by omega) (by omega)
      refine ⟨((q + 1 : Nat) : Int), ?_, rfl⟩
      unfold synthesisref12_Same_l1
      rw [lt_len hq, cond_true, idx_nat, hx, Option.bind_some, Option.bind_some, hm, Option.bind_some, w64_succ' (show q < 1000 by omega) (by omega)]
      rfl) (fun st hp => by
      subst hp
      exact ⟨.inl (), by unfold synthesisref12_Same_l1; rw [lt_len', cond_false], rfl⟩) 0 rfl
    subst v2
    rw [v1]
    rfl
theorem term_ref {l : La} (hg : GoodL l) {c s k n : Int} (hc : synthesisref11_Check l = some c) : synthesisref12_Term l s k n = some (termC l c s k n) := by
  unfold synthesisref12_Term termC
  rw [count_ref hg hc, Option.bind_some]
  by_cases he : errC l c s k = 0
  · obtain ⟨_, h1, h2, h3, h4⟩ := errC_zero he
    obtain ⟨q, rfl⟩ := Int.eq_ofNat_of_zero_le (show 0 ≤ k by omega)
    rw [he, if_neg (by simp), if_neg (by simp), Int.toNat_natCast]
    by_cases ha : (ansC (VN l s q)).2 = 0
    · rw [ha, bne_self_eq_false, if_neg (by simp), cond_false]
      have hx : ¬ (1152921504606846976 : Int) < en (VN l s q) := by
        intro hx
        unfold ansC at ha
        rw [if_pos hx] at ha
        cases ha
      have hv : (ansC (VN l s q)).1 = en (VN l s q) := by unfold ansC; rw [if_neg hx]
      have hen := en_small hx
      rw [hv]
      by_cases hn : n < 0
      · rw [decide_eq_true hn, if_pos (.inl hn)]; rfl
      · by_cases hn2 : en (VN l s q) ≤ n
        · rw [decide_eq_false hn, decide_eq_true hn2, if_pos (.inr hn2)]; rfl
        · rw [decide_eq_false hn, decide_eq_false hn2, if_neg (by intro h; exact h.elim hn hn2)]
          obtain ⟨p, rfl⟩ := Int.eq_ofNat_of_zero_le (show 0 ≤ n by omega)
          have hlt : p < NS.rr (VN l) [s] q := by rw [rr_sing]; omega
          have hlen := chT_len l q [s] p hlt
          have hsize := chT_size l q [s] p hlt
          have his := chT_is l q [s] p hlt
          have hl2 := term_l2 hg (show q ≤ 24 by omega) h1 h2 hlt (by omega)
          simp only [cond_false, Option.bind_some]
          rw [table_eq hg (by omega), Option.bind_some, hl2, Option.bind_some, Int.toNat_natCast]
          obtain ⟨t, ht⟩ : ∃ t, chT l q [s] p = [t] := by
            cases hq : chT l q [s] p with
            | nil => rw [hq] at hlen; cases hlen
            | cons t ts =>
              cases ts with
              | nil => exact ⟨t, rfl⟩
              | cons t2 ts => rw [hq] at hlen; cases hlen
          rw [ht] at hsize his ⊢
          have hts : t.size = q := by have : Tm.sizeL [t] = t.size + 0 := rfl; omega
          have hit : isT l t s = true := by rw [isL, Bool.and_eq_true] at his; exact his.1
          have hread := read_ok hg fuel t s [] (Nat.le_of_lt (lt_fuel (by omega))) (by omega) hit
          have hp : Tm.preL Tm.rule [t] = t.rules ++ [] := rfl
          rw [hp, hread, Option.bind_some]
          simp only
          rw [tm_eta]
          rfl
    · rw [show ((ansC (VN l s q)).2 != 0) = true by rw [bne_iff_ne]; exact ha, if_pos ha]
      rfl
  · rw [if_pos he, if_pos he]
    simp only
    rw [show (errC l c s k != 0) = true by rw [bne_iff_ne]; exact he]
    rfl
theorem termC_size (l : La) (c s k n : Int) : (termC l c s k n).1.size ≤ 1000 := by
  by_cases h : (termC l c s k n).2 = 0
  · obtain ⟨g1, g2, g3, g4, g5⟩ := termC_ok h
    obtain ⟨_, r2⟩ := head_rules g4
    rw [g5]
    omega
  · have hz : (termC l c s k n).1 = zeroT := by
      unfold termC at h ⊢
      by_cases he : errC l c s k = 0
      · rw [he, if_neg (by simp)] at h ⊢
        by_cases ha : (ansC (VN l s k.toNat)).2 = 0
        · rw [ha, if_neg (by simp)] at h ⊢
          by_cases hn : n < 0 ∨ (ansC (VN l s k.toNat)).1 ≤ n
          · rw [if_pos hn]
          · rw [if_neg hn] at h; exact absurd rfl h
        · rw [if_pos ha]
      · rw [if_pos he]
    rw [hz]
    decide
theorem law_CountingTerms (l : La) (x : S_ar2_i64) (n : Int) (hl : wideL l) (_ : True) (_ : InI64 n) : synthesislaw12_CountingTerms l x n = some true := by
  obtain ⟨b, b1, _⟩ := small_leaf l
  obtain ⟨c, c1, c2, c3⟩ := lang_u l hl
  unfold synthesislaw12_CountingTerms
  rw [b1, awake12, Option.bind_some]
  cases b with
  | false => rfl
  | true =>
    have both : ∃ o, counting_Term l x.f_0 x.f_1 n = some o ∧ synthesisref12_Term l x.f_0 x.f_1 n = some o ∧ o.1.size ≤ 1000 := by
      by_cases hc : c = 0
      · have hg := c3 hc
        exact ⟨_, term_prog hg c1, term_ref hg c2, termC_size l c _ _ _⟩
      · have hb : (c != 0) = true := by rw [bne_iff_ne]; exact hc
        refine ⟨(zeroT, c), ?_, ?_, show zeroT.size ≤ 1000 by decide⟩
        · unfold counting_Term counting_Count
          rw [check_c c1, bad_err hc, Option.bind_some, hb]
          simp only [cond_true, Option.bind_some, hb]
          rfl
        · unfold synthesisref12_Term synthesisref12_Count
          rw [wrong_c c2, bad_err hc, Option.bind_some, hb]
          simp only [cond_true, Option.bind_some, hb]
          rfl
    obtain ⟨o, o1, o2, o3⟩ := both
    rw [o1, o2]
    simp only [Bool.not_true, cond_false, Option.bind_some]
    rw [same_refl fuel o.1 (Nat.le_of_lt (lt_fuel (by omega))) o3]
    simp only [Option.bind_some, cond_true, beq_self_eq_true]
end Go.Proofs.Ytfkddbccogakoaa
