/- Learned weights are weights and follow the uses; the law WeightUses. -/
import Derived.Test.YtpcfkflhnkfjjaaWd
set_option linter.unusedVariables false
set_option linter.unusedSimpArgs false
namespace Go.Proofs.Ytpcfkflhnkfjjaa
open Go Go.RowKit

def cnt (us : List Int) (r : Int) : List Int := if 0 ≤ r ∧ r < (us.length : Int) then add1 us r else us
def cntR (us rs : List Int) : List Int := rs.foldl cnt us
theorem cntR_eq (rs us : List Int) (h : ∀ q ∈ rs, 0 ≤ q ∧ q < (us.length : Int)) : cntR us rs = addR us rs := by
  induction rs generalizing us with
  | nil => rfl
  | cons r rs ih =>
    show cntR (cnt us r) rs = addR (add1 us r) rs
    rw [show cnt us r = add1 us r by unfold cnt; rw [if_pos (h r (List.mem_cons_self ..))]]
    exact ih _ fun q hq => by rw [add1_len]; exact h q (List.mem_cons_of_mem _ hq)
theorem uses_l1 (us rs : List Int) (hl : rs.length ≤ 1000000) : loopN (synthesislaw38_WeightUses_l1 rs) fuel (0, us) = some (cntR us rs) := by
  rw [loop_acc (step := synthesislaw38_WeightUses_l1 rs) rs (fun s x => some (cnt s x)) (fun i s => (i, s)) (by omega) (fun i x s hx => by
    have hi := get_lt hx
    simp only [synthesislaw38_WeightUses_l1, lt_len hi, cond_true, idx_nat, hx, Option.bind_some, w64_succ' hi (show rs.length ≤ 9223372036854775807 by omega)]
    unfold cnt
    by_cases h0 : 0 ≤ x
    · by_cases h1 : x < (s.length : Int)
      · rw [decide_eq_true h0, decide_eq_true h1, if_pos ⟨h0, h1⟩]
        simp only [cond_true, Option.bind_some, idx_in ⟨h0, h1⟩]
        rfl
      · rw [decide_eq_true h0, decide_eq_false h1, if_neg (fun h => h1 h.2)]
        rfl
    · rw [decide_eq_false h0, if_neg (fun h => h0 h.1)]
      rfl) (fun s => by simp only [synthesislaw38_WeightUses_l1, lt_len', cond_false])]
  clear hl
  induction rs generalizing us with
  | nil => rfl
  | cons r rs ih => rw [List.foldlM_cons]; exact ih (cnt us r)
def useF (us : List Int) (t : Tm) : List Int ⊕ Bool := if t.size ≤ 30 then .inl (cntR us t.rules) else .inr true
theorem uses_l5 (xs : List Tm) (us : List Int) (hx : xs.length ≤ 20) : loopN (synthesislaw38_WeightUses_l5 xs) fuel (0, us) = some (runP useF xs us) := by
  rw [loop_run (step := synthesislaw38_WeightUses_l5 xs) xs (fun us t => (Option.bind (synthesisref13_Within t 30) fun v9 => bif !v9 then some (.inr true) else Option.bind (synthesisref13_Rules fuel t) fun v12 => Option.bind (loopN (synthesislaw38_WeightUses_l1 v12) fuel (0, us)) fun v25 => some (.inl v25) : Option (List Int ⊕ Bool))) (fun s i => (i, s)) (Sum.map id id) (by omega) (fun i t s hx => by
      have hi := get_lt hx
      simp only [synthesislaw38_WeightUses_l5, lt_len hi, cond_true, idx_nat, hx, Option.bind_some, awake38, w64_succ' hi (show xs.length ≤ 9223372036854775807 by omega)]
      cases synthesisref13_Within t 30 with
      | none => rfl
      | some b =>
        cases b with
        | false => rfl
        | true =>
          simp only [Option.bind_some, Bool.not_true, cond_false]
          cases synthesisref13_Rules fuel t with
          | none => rfl
          | some v => simp only [Option.bind_some]; cases loopN (synthesislaw38_WeightUses_l1 v) fuel (0, s) <;> rfl) (fun s => by simp only [synthesislaw38_WeightUses_l5, lt_len', cond_false]; rfl)]
  rw [runL_eq (F := useF) (fun _ _ => True) xs us trivial fun t l s _ => ⟨?_, fun _ _ => trivial⟩]
  · simp
  · have hw : synthesisref13_Within t 30 = some (decide (t.size ≤ 30)) := within_eq t 30 (by omega)
    rw [hw]
    unfold useF
    by_cases h : t.size ≤ 30
    · rw [decide_eq_true h, if_pos h]
      simp only [Option.bind_some, Bool.not_true, cond_false, rules_ref fuel t (Nat.le_of_lt (lt_fuel (by omega))) (by omega), uses_l1 s t.rules (by rw [Tm.rules_length]; omega)]
    · rw [decide_eq_false h, if_neg h]
      rfl
theorem useF_inl : ∀ (xs : List Tm) (us us' : List Int), runP useF xs us = .inl us' → us' = xs.foldl (fun us t => cntR us t.rules) us ∧ ∀ x ∈ xs, x.size ≤ 30
  | [], us, us', h => by cases h; exact ⟨rfl, fun x hx => nomatch hx⟩
  | x :: xs, us, us', h => by
    rw [runP] at h
    unfold useF at h
    by_cases hx : x.size ≤ 30
    · rw [if_pos hx] at h
      obtain ⟨h1, h2⟩ := useF_inl xs _ us' h
      refine ⟨h1, fun y hy => ?_⟩
      rcases List.mem_cons.1 hy with rfl | hy
      · exact hx
      · exact h2 y hy
    · rw [if_neg hx] at h; cases h
theorem useF_inr : ∀ (xs : List Tm) (us : List Int) (b : Bool), runP useF xs us = .inr b → b = true
  | [], us, b, h => by cases h
  | x :: xs, us, b, h => by
    rw [runP] at h
    unfold useF at h
    by_cases hx : x.size ≤ 30
    · rw [if_pos hx] at h; exact useF_inr xs _ b h
    · rw [if_neg hx] at h; cases h; rfl
theorem learn1_inl {l : La} (hl : wideL l) {us s : List Int} {t : Tm} (ht : t.size ≤ 30) (h : learn1 l us t = .inl s) : s = addR us t.rules ∧ ∀ q ∈ t.rules, 0 ≤ q ∧ q < (l.rules.length : Int) := by
  unfold learn1 at h
  split at h
  · cases h
  · obtain ⟨c, c1, _, c3⟩ := check_both l ((l.rules[t.rule.toNat]?).getD zeroR).symbol t hl (by omega)
    rw [c1] at h
    split at h
    · cases h
    · rename_i hc
      have hc' : c = 0 := by simpa using hc
      obtain ⟨hg, hd⟩ := c3 hc'
      cases h
      exact ⟨rfl, derived_rules fuel l _ t (by omega) (Nat.le_of_lt (lt_fuel (by omega))) (fun x hx hk => by rw [(hg.good x hx).noargs hk]; rfl) hd⟩
theorem learn_uses {l : La} (hl : wideL l) : ∀ (xs : List Tm) (us us' : List Int), us.length = l.rules.length → (∀ x ∈ xs, x.size ≤ 30) → runP (learn1 l) xs us = .inl us' → us' = xs.foldl (fun us t => cntR us t.rules) us ∧ ∀ x ∈ xs, ∀ q ∈ x.rules, 0 ≤ q ∧ q < (l.rules.length : Int)
  | [], us, us', _, _, h => by cases h; exact ⟨rfl, fun x hx => nomatch hx⟩
  | x :: xs, us, us', hlen, hs, h => by
    rw [runP] at h
    cases hF : learn1 l us x with
    | inr b => rw [hF] at h; cases h
    | inl s =>
      rw [hF] at h
      obtain ⟨rfl, hq⟩ := learn1_inl hl (hs x (List.mem_cons_self ..)) hF
      obtain ⟨h1, h2⟩ := learn_uses hl xs _ us' (by rw [addR_len, hlen]) (fun y hy => hs y (List.mem_cons_of_mem _ hy)) h
      refine ⟨by rw [h1, List.foldl_cons, cntR_eq x.rules us (by rw [hlen]; exact hq)], fun y hy => ?_⟩
      rcases List.mem_cons.1 hy with rfl | hy
      · exact hq
      · exact h2 y hy
theorem sumU_mem {us : List Int} (h : Bd us 600) : ∀ (K : List Nat) (k : Nat), k ∈ K → useAt us k + 1 ≤ sumU us K
  | [], k, hk => nomatch hk
  | j :: K, k, hk => by
    rw [sumU_cons]
    have hj := use_bd h (by omega) j
    have hK := sumU_bd h K
    rcases List.mem_cons.1 hk with rfl | hk
    · omega
    · have := sumU_mem h K k hk; omega
theorem wgt_eq (l : La) (us : List Int) (h96 : l.rules.length ≤ 96) (hb : Bd us 600) (i : Nat) : wgt l us i = imin (sumU us (plL l (symAt l i) l.rules.length) / (useAt us i + 1)) 1000 ∧ 0 ≤ sumU us (plL l (symAt l i) l.rules.length) := by
  have h1 := sumU_bd hb (plL l (symAt l i) l.rules.length)
  have h2 := plL_len l (symAt l i) l.rules.length
  have h3 := use_bd hb (by omega) i
  have h4 : 0 ≤ sumU us (plL l (symAt l i) l.rules.length) / (useAt us i + 1) := Int.ediv_nonneg (by omega) (by omega)
  have h5 : sumU us (plL l (symAt l i) l.rules.length) / (useAt us i + 1) ≤ sumU us (plL l (symAt l i) l.rules.length) := Int.ediv_le_self _ (by omega)
  unfold wgt
  rw [Int.tdiv_eq_ediv_of_nonneg (by omega)]
  have : IntKind.i64.wrap (sumU us (plL l (symAt l i) l.rules.length) / (useAt us i + 1)) = sumU us (plL l (symAt l i) l.rules.length) / (useAt us i + 1) := w64_eq (by omega) (by omega)
  rw [this]
  exact ⟨rfl, by omega⟩
theorem wgt_range (l : La) (us : List Int) (h96 : l.rules.length ≤ 96) (hb : Bd us 600) {i : Nat} (hi : i < l.rules.length) : 1 ≤ wgt l us i ∧ wgt l us i ≤ 1000 := by
  obtain ⟨h1, h0⟩ := wgt_eq l us h96 hb i
  have h3 := use_bd hb (by omega) i
  have hm : i ∈ plL l (symAt l i) l.rules.length := by unfold plL; rw [List.mem_filter, List.mem_range]; exact ⟨hi, by simp⟩
  have h4 := sumU_mem hb _ i hm
  have h5 : 1 ≤ sumU us (plL l (symAt l i) l.rules.length) / (useAt us i + 1) := (Int.le_ediv_iff_mul_le (by omega)).2 (by omega)
  rw [h1]
  unfold imin
  split <;> omega
theorem wgt_mono (l : La) (us : List Int) (h96 : l.rules.length ≤ 96) (hb : Bd us 600) {i j : Nat} (hs : symAt l i = symAt l j) (hu : useAt us j < useAt us i) : wgt l us i ≤ wgt l us j := by
  obtain ⟨h1, h0⟩ := wgt_eq l us h96 hb i
  obtain ⟨h2, _⟩ := wgt_eq l us h96 hb j
  have h3 := use_bd hb (by omega) i
  have h4 := use_bd hb (by omega) j
  rw [h1, h2, ← hs]
  have q0 : 0 ≤ sumU us (plL l (symAt l i) l.rules.length) / (useAt us i + 1) := Int.ediv_nonneg h0 (by omega)
  have q1 := Int.ediv_mul_le (sumU us (plL l (symAt l i) l.rules.length)) (b := useAt us i + 1) (by omega)
  have q2 : sumU us (plL l (symAt l i) l.rules.length) / (useAt us i + 1) * (useAt us j + 1) ≤ sumU us (plL l (symAt l i) l.rules.length) / (useAt us i + 1) * (useAt us i + 1) := Int.mul_le_mul_of_nonneg_left (by omega) q0
  have q3 : sumU us (plL l (symAt l i) l.rules.length) / (useAt us i + 1) ≤ sumU us (plL l (symAt l i) l.rules.length) / (useAt us j + 1) := (Int.le_ediv_iff_mul_le (by omega)).2 (by omega)
  unfold imin
  split <;> split <;> omega
theorem rep_idx {n k : Nat} (h : k < n) : (List.replicate n (1 : Int))[k]? = some 1 := by rw [List.getElem?_replicate, if_pos h]
theorem cost_rep (n : Nat) (rs : List Int) (h : ∀ q ∈ rs, 0 ≤ q ∧ q < (n : Int)) : costC (List.replicate n 1) rs = ((rs.length : Int), 0) := by
  have hr : ∀ q ∈ rs, rW (List.replicate n 1) q = 1 := fun q hq => by
    unfold rW
    rw [rep_idx (by have := h q hq; omega)]
    rfl
  have ha : rs.all (rOk (List.replicate n 1)) = true := List.all_eq_true.2 fun q hq => by
    have := h q hq
    unfold rOk
    rw [hr q hq, List.length_replicate, decide_eq_true this.1, decide_eq_true this.2]
    rfl
  have hsum : ∀ rs : List Int, (∀ q ∈ rs, rW (List.replicate n 1) q = 1) → sumW (List.replicate n 1) rs = (rs.length : Int) := fun rs => by
    induction rs with
    | nil => intro _; rfl
    | cons r rs ih =>
      intro h
      have := ih fun q hq => h q (List.mem_cons_of_mem _ hq)
      have h1 := h r (List.mem_cons_self ..)
      unfold sumW at this ⊢
      rw [List.map_cons, List.sum_cons, this, h1, List.length_cons]
      omega
  unfold costC
  rw [if_pos ha, hsum rs hr]
def wts (l : La) (us : List Int) : List Int := (List.range l.rules.length).map (wgt l us)
theorem wts_len (l : La) (us : List Int) : (wts l us).length = l.rules.length := by simp [wts]
theorem wts_at (l : La) (us : List Int) {i : Nat} (h : i < l.rules.length) : (wts l us)[i]? = some (wgt l us i) := by simp [wts, h]
theorem uses_l2 (l : La) (us : List Int) (e : Int) (hlen : us.length = l.rules.length) (h96 : l.rules.length ≤ 96) (hb : Bd us 600) {i : Nat} (hi : i < l.rules.length) : loopN (synthesislaw38_WeightUses_l2 l us (wts l us, e) (i : Int)) fuel 0 = some (.inl ()) := by
  rcases loop_find (step := synthesislaw38_WeightUses_l2 l us (wts l us, e) (i : Int)) l.rules.length (by omega) (fun _ => false) (fun _ => .inr false) (.inl ()) (fun j hj => by
    obtain ⟨y, hr, hs⟩ := rule_at l hi
    obtain ⟨z, hr2, hs2⟩ := rule_at l hj
    have hw := wgt_range l us h96 hb hi
    have n1 : decide (wgt l us i < 1) = false := decide_eq_false (by omega)
    simp only [synthesislaw38_WeightUses_l2, wts_len, lt_len hj, cond_true, idx_nat, wts_at l us hi, wts_at l us hj, hr, hr2, hs, hs2, use_idx (show i < us.length by omega), use_idx (show j < us.length by omega), Option.bind_some, w64_succ' hj (show l.rules.length ≤ 9223372036854775807 by omega), n1, cond_false, Bool.false_eq_true, if_false]
    cases hsym : symAt l i == symAt l j with
    | false => rfl
    | true =>
      by_cases hu : useAt us j < useAt us i
      · rw [decide_eq_true hu, decide_eq_false (show ¬ wgt l us j < wgt l us i by have := wgt_mono l us h96 hb (eq_of_beq hsym) hu; omega)]
        rfl
      · rw [decide_eq_false hu]
        rfl) (by
    have := wts_len l us
    simp only [synthesislaw38_WeightUses_l2, this, lt_len', cond_false]) with ⟨_, _, h, _⟩ | ⟨_, h⟩
  · cases h
  · exact h
theorem uses_l4 (l : La) (us : List Int) (e : Int) (hlen : us.length = l.rules.length) (h96 : l.rules.length ≤ 96) (hb : Bd us 600) : loopN (synthesislaw38_WeightUses_l4 l us (wts l us, e)) fuel 0 = some (.inl ()) := by
  rcases loop_find (step := synthesislaw38_WeightUses_l4 l us (wts l us, e)) l.rules.length (by omega) (fun _ => false) (fun _ => .inr false) (.inl ()) (fun i hi => by
    simp only [synthesislaw38_WeightUses_l4, wts_len, lt_len hi, cond_true, uses_l2 l us e hlen h96 hb hi, Option.bind_some, Sum.elim_inl, w64_succ' hi (show l.rules.length ≤ 9223372036854775807 by omega), Bool.false_eq_true, if_false]) (by
    have := wts_len l us
    simp only [synthesislaw38_WeightUses_l4, this, lt_len', cond_false]) with ⟨_, _, h, _⟩ | ⟨_, h⟩
  · cases h
  · exact h
theorem uses_l3 (n : Nat) (hn : n ≤ 96) (xs : List Tm) (hx : xs.length ≤ 20) (hs : ∀ x ∈ xs, x.size ≤ 30) (hq : ∀ x ∈ xs, ∀ q ∈ x.rules, 0 ≤ q ∧ q < (n : Int)) : loopN (synthesislaw38_WeightUses_l3 xs (List.replicate n 1)) fuel 0 = some (.inl ()) := by
  rcases loop_find (step := synthesislaw38_WeightUses_l3 xs (List.replicate n 1)) xs.length (by omega) (fun _ => false) (fun _ => .inr false) (.inl ()) (fun i hi => by
    have e1 : xs[i]? = some xs[i] := List.getElem?_eq_getElem hi
    have hz := hs xs[i] (List.getElem_mem hi)
    have hc := cost_eq (List.replicate n 1) (by rw [List.length_replicate]; omega) fuel xs[i] (Nat.le_of_lt (lt_fuel (by omega))) (by omega)
    rw [cost_rep n _ (hq xs[i] (List.getElem_mem hi)), Tm.rules_length] at hc
    simp only [synthesislaw38_WeightUses_l3, lt_len hi, cond_true, idx_nat, e1, Option.bind_some, hc, size_ref fuel xs[i] (Nat.le_of_lt (lt_fuel (by omega))) (by omega), w64_succ' hi (show xs.length ≤ 9223372036854775807 by omega), bne_self_eq_false, cond_false, Bool.false_eq_true, if_false]) (by simp only [synthesislaw38_WeightUses_l3, lt_len', cond_false]) with ⟨_, _, h, _⟩ | ⟨_, h⟩
  · cases h
  · exact h
theorem refcheck_wts (l : La) (us : List Int) (hc : synthesisref11_Check l = some 0) (h96 : l.rules.length ≤ 96) (hb : Bd us 600) : synthesisref38_Check l (wts l us) = some 0 := by
  have hbad : (wts l us).any badW = false := by
    rw [List.any_eq_false]
    intro x hx
    unfold wts at hx
    obtain ⟨i, hi, rfl⟩ := List.mem_map.1 hx
    have := wgt_range l us h96 hb (List.mem_range.1 hi)
    unfold badW
    rw [decide_eq_false (by omega), decide_eq_false (by omega)]
    decide
  unfold synthesisref38_Check
  rw [hc, wts_len, refbad (wts l us) (by rw [wts_len]; omega), hbad, bne_self_eq_false]
  rfl
theorem law_WeightUses (l : La) (xs : List Tm) (hl : wideL l) (hx : xs.length ≤ 9223372036854775807) : synthesislaw38_WeightUses l xs = some true := by
  unfold synthesislaw38_WeightUses
  rcases few_guard l xs with h | ⟨h, h20, hr20⟩
  · rw [h, awake38]; rfl
  rw [h, awake38]
  obtain ⟨u, u1, _, u3, u4⟩ := uniform_both l hl
  simp only [Option.bind_some, cond_false, mkL_eq 8 (0 : Int) l.rules.length (by omega), u1, uses_l5 xs _ h20]
  cases hrun : runP useF xs (List.replicate l.rules.length 0) with
  | inr b => have := useF_inr xs _ b hrun; subst this; rfl
  | inl us =>
    obtain ⟨hus, hs⟩ := useF_inl xs _ us hrun
    obtain ⟨o, o1, _, o3, o4, o5⟩ := learn_both l xs hl hs h20
    simp only [Sum.elim_inl, o1, Option.bind_some]
    obtain ⟨ws, e⟩ := o
    by_cases he : e = 0
    · obtain ⟨g1, g2, hg, us', hr, hlen, hb, hws⟩ := o5 he
      obtain ⟨h1, hq⟩ := learn_uses hl xs _ us' List.length_replicate hs hr
      have hU : us' = us := by rw [h1, hus]
      subst hU
      have hu : u = List.replicate l.rules.length 1 := by rw [u4 0 g1]; rfl
      have hws' : ws = wts l us' := hws
      subst he hws' hu
      have h96 := hg.rules
      rw [bne_self_eq_false]
      simp only [cond_false, refcheck_wts l us' g2 h96 hb, Option.bind_some, bne_self_eq_false, uses_l4 l us' 0 hlen h96 hb, Sum.elim_inl, uses_l3 l.rules.length h96 xs h20 hs hq]
    · have hw : ws = [] := o4 he
      subst hw
      rw [show (e != 0) = true by rw [bne_iff_ne]; exact he]
      rfl
end Go.Proofs.Ytpcfkflhnkfjjaa
