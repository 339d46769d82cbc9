/- Learned weights: from uses to weights; the law WeightLearns. -/
import Derived.Test.YtpcfkflhnkfjjaaWc
set_option linter.unusedVariables false
set_option linter.unusedSimpArgs false
namespace Go.Proofs.Ytpcfkflhnkfjjaa
open Go Go.RowKit

def symAt (l : La) (k : Nat) : Int := ((l.rules[k]?).getD zeroR).symbol
/-- the places of the rules of a symbol -/
def plL (l : La) (s : Int) (n : Nat) : List Nat := (List.range n).filter fun k => symAt l k == s
theorem plL_succ (l : La) (s : Int) (n : Nat) : plL l s (n + 1) = plL l s n ++ (if (symAt l n == s) = true then [n] else []) := by
  unfold plL
  rw [List.range_succ, List.filter_append]
  congr 1
  cases h : symAt l n == s <;> simp [h]
theorem plL_mem {l : La} {s : Int} {n k : Nat} (h : k ∈ plL l s n) : k < n ∧ symAt l k = s := by
  unfold plL at h
  rw [List.mem_filter, List.mem_range] at h
  exact ⟨h.1, by simpa using h.2⟩
theorem plL_len (l : La) (s : Int) (n : Nat) : (plL l s n).length ≤ n := by
  unfold plL
  have := List.length_filter_le (fun k => symAt l k == s) (List.range n)
  rwa [List.length_range] at this
def natI (k : Nat) : Int := (k : Int)
theorem rule_at (l : La) {k : Nat} (h : k < l.rules.length) : ∃ y, l.rules[k]? = some y ∧ y.symbol = symAt l k :=
  ⟨l.rules[k], List.getElem?_eq_getElem h, by unfold symAt; rw [List.getElem?_eq_getElem h]; rfl⟩
theorem of_eq (l : La) (s : Int) (h : l.rules.length ≤ 1000000) : grammar_Of l s = some ((plL l s l.rules.length).map natI) := by
  unfold grammar_Of
  have := loop_end (step := grammar_Of_l1 l s) l.rules.length (by omega) (fun i => ((i : Int), (plL l s i).map natI)) ((plL l s l.rules.length).map natI) (fun i hi => by
    obtain ⟨y, hr, hs⟩ := rule_at l hi
    have hlen := plL_len l s i
    simp only [grammar_Of_l1, lt_len hi, cond_true, idx_nat, hr, hs, Option.bind_some, w64_succ' hi (show l.rules.length ≤ 9223372036854775807 by omega), app1 (show ((plL l s i).map natI).length ≤ 1000000 by rw [List.length_map]; omega)]
    rw [plL_succ]
    show Option.bind (bif symAt l i == s then _ else _) _ = _
    cases symAt l i == s with
    | true => simp only [cond_true, Option.bind_some, if_true, List.map_append, List.map_cons, List.map_nil]; rfl
    | false => simp) (by simp only [grammar_Of_l1, lt_len', cond_false])
  have h' : loopN (grammar_Of_l1 l s) fuel (0, []) = some ((plL l s l.rules.length).map natI) := by simpa [plL] using this
  rw [h', Option.bind_some]
def useAt (us : List Int) (k : Nat) : Int := (us[k]?).getD 0
def sumU (us : List Int) (K : List Nat) : Int := (K.map fun k => useAt us k + 1).sum
theorem sumU_cons (us : List Int) (k : Nat) (K : List Nat) : sumU us (k :: K) = useAt us k + 1 + sumU us K := by simp [sumU]
theorem use_bd {us : List Int} {b : Int} (h : Bd us b) (hb : 0 ≤ b) (k : Nat) : 0 ≤ useAt us k ∧ useAt us k ≤ b := by
  unfold useAt
  cases he : us[k]? with
  | none => simp only [Option.getD_none]; omega
  | some v => exact h v (List.mem_of_getElem? he)
theorem sumU_bd {us : List Int} (h : Bd us 600) (K : List Nat) : (K.length : Int) ≤ sumU us K ∧ sumU us K ≤ 601 * (K.length : Int) := by
  induction K with
  | nil => simp [sumU]
  | cons k K ih =>
    have := use_bd h (by omega) k
    rw [sumU_cons, List.length_cons]
    omega
theorem use_idx {us : List Int} {k : Nat} (h : k < us.length) : us[k]? = some (useAt us k) := by unfold useAt; rw [List.getElem?_eq_getElem h]; rfl
theorem pair_fold {us : List Int} (hb : Bd us 600) : ∀ (K : List Nat) (a c : Int), (∀ k ∈ K, k < us.length) → 0 ≤ a → 0 ≤ c → a + c + 601 * (K.length : Int) ≤ 1000000 →
    ∃ a' c', (K.map natI).foldlM (fun (s : Int × Int) k => Option.bind (idx us k) fun u => some (w64 (s.1 + u), w64 (s.2 + 1))) (a, c) = some (a', c') ∧ a' + c' = a + c + sumU us K ∧ 0 ≤ a' ∧ 0 ≤ c'
  | [], a, c, _, ha, hc, _ => ⟨a, c, rfl, by simp [sumU], ha, hc⟩
  | k :: K, a, c, hk, ha, hc, hl => by
    have hu := use_bd hb (by omega) k
    rw [List.length_cons] at hl
    have e : idx us (natI k) = some (useAt us k) := by unfold natI; rw [idx_nat, use_idx (hk k (List.mem_cons_self ..))]
    rw [List.map_cons, List.foldlM_cons, e, Option.bind_some, w64_eq (by omega) (by omega), w64_eq (by omega) (by omega)]
    obtain ⟨a', c', h1, h2, h3⟩ := pair_fold hb K (a + useAt us k) (c + 1) (fun q hq => hk q (List.mem_cons_of_mem _ hq)) (by omega) (by omega) (by omega)
    exact ⟨a', c', h1, by rw [sumU_cons]; omega, h3⟩
/-- the weight that a rule gets -/
def wgt (l : La) (us : List Int) (i : Nat) : Int := imin (IntKind.i64.wrap ((sumU us (plL l (symAt l i) l.rules.length)).tdiv (useAt us i + 1))) 1000
theorem range_at {n i x : Nat} (h : (List.range n)[i]? = some x) : x = i ∧ i < n := by
  have hi : i < n := by
    have := get_lt h
    rwa [List.length_range] at this
  rw [List.getElem?_range hi] at h
  cases h
  exact ⟨rfl, hi⟩
theorem ref_sum (l : La) (us : List Int) (hlen : us.length = l.rules.length) (h96 : l.rules.length ≤ 96) (hb : Bd us 600) (i : Nat) (hi : i < l.rules.length) (out : List Int) : loopN (synthesisref38_Learn_l2 l us ((i : Int), out)) fuel (0, 0) = some (sumU us (plL l (symAt l i) l.rules.length)) := by
  have hn : (List.range l.rules.length).length = l.rules.length := List.length_range
  have h := loop_acc (step := synthesisref38_Learn_l2 l us ((i : Int), out)) (List.range l.rules.length) (fun (t : Int) k => (bif symAt l k == symAt l i then some (w64 (w64 (t + useAt us k) + 1)) else some t : Option Int)) (fun j t => (t, j)) (by omega) (fun j x s hx => by
    obtain ⟨rfl, hj⟩ := range_at hx
    obtain ⟨y, hr, hs⟩ := rule_at l hj
    obtain ⟨y2, hr2, hs2⟩ := rule_at l hi
    simp only [synthesisref38_Learn_l2, lt_len hj, cond_true, idx_nat, hr, hr2, hs, hs2, use_idx (show x < us.length by omega), Option.bind_some, w64_succ' hj (show l.rules.length ≤ 9223372036854775807 by omega)]
    show Option.bind (bif symAt l x == symAt l i then _ else _) _ = _
    cases symAt l x == symAt l i <;> rfl) (fun s => by rw [hn]; simp only [synthesisref38_Learn_l2, lt_len', cond_false]) 0
  rw [h]
  have key : ∀ (L : List Nat) (t : Int), 0 ≤ t → t + 601 * (L.length : Int) ≤ 1000000 → L.foldlM (fun (t : Int) k => (bif symAt l k == symAt l i then some (w64 (w64 (t + useAt us k) + 1)) else some t : Option Int)) t = some (t + sumU us (L.filter fun k => symAt l k == symAt l i)) := by
    intro L
    induction L with
    | nil => intro t _ _; simp [sumU]
    | cons k L ih =>
      intro t h0 h1
      rw [List.length_cons] at h1
      have hu := use_bd hb (by omega) k
      rw [List.foldlM_cons, List.filter_cons]
      cases symAt l k == symAt l i with
      | true =>
        simp only [cond_true, if_true]
        rw [w64_eq (n := t + useAt us k) (by omega) (by omega), w64_eq (by omega) (by omega), sumU_cons]
        have := ih (t + useAt us k + 1) (by omega) (by omega)
        show List.foldlM _ (t + useAt us k + 1) L = _
        rw [this]
        congr 1
        omega
      | false =>
        simp only [cond_false, Bool.false_eq_true, if_false]
        exact ih t h0 (by omega)
  rw [key _ 0 (by omega) (by rw [hn]; omega), Int.zero_add]
  rfl
theorem out_fold (f : Nat → Int) (r : List Int → Nat → Option (List Int)) : ∀ (L : List Nat) (out : List Int), (∀ k ∈ L, ∀ out : List Int, out.length ≤ 1000 → r out k = some (out ++ [f k])) → out.length + L.length ≤ 1000 → L.foldlM r out = some (out ++ L.map f)
  | [], out, _, _ => by simp
  | k :: L, out, h, hl => by
    rw [List.length_cons] at hl
    rw [List.foldlM_cons, h k (List.mem_cons_self ..) out (by omega)]
    have := out_fold f r L (out ++ [f k]) (fun q hq => h q (List.mem_cons_of_mem _ hq)) (by rw [List.length_append, List.length_singleton]; omega)
    show List.foldlM r (out ++ [f k]) L = _
    rw [this, List.append_assoc]
    rfl
theorem weights_prog (l : La) (us : List Int) (hlen : us.length = l.rules.length) (h96 : l.rules.length ≤ 96) (hb : Bd us 600) : loopN (weight_Learn_l2 l us) fuel (0, []) = some ((List.range l.rules.length).map (wgt l us)) := by
  have hn : (List.range l.rules.length).length = l.rules.length := List.length_range
  rw [loop_acc (step := weight_Learn_l2 l us) (List.range l.rules.length) (fun (out : List Int) k => app 8 out [wgt l us k]) (fun j t => (j, t)) (by omega) (fun j x s hx => by
    obtain ⟨rfl, hj⟩ := range_at hx
    obtain ⟨y, hr, hy⟩ := rule_at l hj
    have hu := use_bd hb (by omega) x
    have hof := of_eq l (symAt l x) (by omega)
    have hpl := plL_len l (symAt l x) l.rules.length
    have hsb := sumU_bd hb (plL l (symAt l x) l.rules.length)
    obtain ⟨a', c', p1, p2, p3, p4⟩ := pair_fold hb (plL l (symAt l x) l.rules.length) 0 0 (fun k hk => by have := (plL_mem hk).1; omega) (by omega) (by omega) (by omega)
    have hloop : loopN (weight_Learn_l1 us ((plL l (symAt l x) l.rules.length).map natI)) fuel (0, 0, 0) = some (a', c') := by
      rw [loop_acc (step := weight_Learn_l1 us ((plL l (symAt l x) l.rules.length).map natI)) ((plL l (symAt l x) l.rules.length).map natI) (fun (s : Int × Int) k => Option.bind (idx us k) fun u => some (w64 (s.1 + u), w64 (s.2 + 1))) (fun i s => (s.1, s.2, i)) (by rw [List.length_map]; omega) (fun i k s hk => by
        have hi := get_lt hk
        simp only [weight_Learn_l1, lt_len hi, cond_true, idx_nat, hk, Option.bind_some, w64_succ' hi (show ((plL l (symAt l x) l.rules.length).map natI).length ≤ 9223372036854775807 by rw [List.length_map]; omega)]
        cases idx us k <;> rfl) (fun s => by simp only [weight_Learn_l1, lt_len', cond_false]) (0, 0)]
      exact p1
    have hsum : a' + c' = sumU us (plL l (symAt l x) l.rules.length) := by omega
    have hquo : quo .i64 (w64 (a' + c')) (w64 (useAt us x + 1)) = some (IntKind.i64.wrap ((sumU us (plL l (symAt l x) l.rules.length)).tdiv (useAt us x + 1))) := by
      unfold quo
      rw [w64_eq (by omega) (by omega), w64_eq (by omega) (by omega), if_neg (by omega), hsum]
    simp only [weight_Learn_l2, lt_len hj, cond_true, idx_nat, hr, Option.bind_some, use_idx (show x < us.length by omega), w64_succ' hj (show l.rules.length ≤ 9223372036854775807 by omega), hy, hof, hloop, hquo]
    show Option.bind (app 8 s [wgt l us x]) _ = _
    cases app 8 s [wgt l us x] <;> rfl) (fun s => by rw [hn]; simp only [weight_Learn_l2, lt_len', cond_false]) []]
  rw [out_fold (wgt l us) _ _ [] (fun k _ out ho => app1 (by omega)) (by rw [hn, List.length_nil]; omega), List.nil_append]
theorem weights_ref (l : La) (us : List Int) (hlen : us.length = l.rules.length) (h96 : l.rules.length ≤ 96) (hb : Bd us 600) : loopN (synthesisref38_Learn_l3 l us) fuel (0, []) = some ((List.range l.rules.length).map (wgt l us)) := by
  have hn : (List.range l.rules.length).length = l.rules.length := List.length_range
  rw [loop_acc (step := synthesisref38_Learn_l3 l us) (List.range l.rules.length) (fun (out : List Int) k => app 8 out [wgt l us k]) (fun j t => (j, t)) (by omega) (fun j x s hx => by
    obtain ⟨rfl, hj⟩ := range_at hx
    have hu := use_bd hb (by omega) x
    have hs := ref_sum l us hlen h96 hb x hj s
    have hquo : quo .i64 (sumU us (plL l (symAt l x) l.rules.length)) (w64 (useAt us x + 1)) = some (IntKind.i64.wrap ((sumU us (plL l (symAt l x) l.rules.length)).tdiv (useAt us x + 1))) := by
      unfold quo
      rw [w64_eq (by omega) (by omega), if_neg (by omega)]
    simp only [synthesisref38_Learn_l3, lt_len hj, cond_true, idx_nat, hs, Option.bind_some, use_idx (show x < us.length by omega), w64_succ' hj (show l.rules.length ≤ 9223372036854775807 by omega), hquo]
    show Option.bind (app 8 s [wgt l us x]) _ = _
    cases app 8 s [wgt l us x] <;> rfl) (fun s => by rw [hn]; simp only [synthesisref38_Learn_l3, lt_len', cond_false]) []]
  rw [out_fold (wgt l us) _ _ [] (fun k _ out ho => app1 (by omega)) (by rw [hn, List.length_nil]; omega), List.nil_append]
theorem inv0 (l : La) (xs : List Tm) (hs : ∀ x ∈ xs, x.size ≤ 30) (h20 : xs.length ≤ 20) : InvL l.rules.length xs (List.replicate l.rules.length 0) :=
  ⟨List.length_replicate, hs, h20, fun u hu => by rw [(List.mem_replicate.1 hu).2]; omega⟩
theorem inv_end {l : La} {xs : List Tm} {us us' : List Int} (hl : wideL l) (h : InvL l.rules.length xs us) (hr : runP (learn1 l) xs us = .inl us') : us'.length = l.rules.length ∧ Bd us' 600 := by
  have := runP_inv (F := learn1 l) (Inv := InvL l.rules.length) xs us us' h (fun x l' s s' hs hF => (learn_step l hl x l' s hs).2.2 s' hF) hr
  exact ⟨this.1, by simpa using this.2.2.2⟩
/-- what both texts learn -/
theorem learn_both (l : La) (xs : List Tm) (hl : wideL l) (hs : ∀ x ∈ xs, x.size ≤ 30) (h20 : xs.length ≤ 20) : ∃ o, weight_Learn l xs = some o ∧ synthesisref38_Learn l xs = some o ∧ o.1.length ≤ 96 ∧ (o.2 ≠ 0 → o.1 = []) ∧ (o.2 = 0 → grammar_Check l = some 0 ∧ synthesisref11_Check l = some 0 ∧ GoodL l ∧ ∃ us, runP (learn1 l) xs (List.replicate l.rules.length 0) = .inl us ∧ us.length = l.rules.length ∧ Bd us 600 ∧ o.1 = (List.range l.rules.length).map (wgt l us)) := by
  obtain ⟨c, c1, c2, c3⟩ := lang_u l hl
  unfold weight_Learn synthesisref38_Learn
  rw [c1, c2]
  simp only [Option.bind_some]
  by_cases hc : c = 0
  · subst hc
    have hg := c3 rfl
    have h96 := hg.rules
    rw [show ((0 : Int) != 0) = false from rfl, decide_eq_false (show ¬ (4096 : Int) < (xs.length : Int) by omega)]
    simp only [cond_false, mkL_eq 8 (0 : Int) l.rules.length (by omega), Option.bind_some]
    obtain ⟨r1, r2⟩ := learn_run l hl xs _ (inv0 l xs hs h20)
    rw [r1, r2]
    cases hr : runP (learn1 l) xs (List.replicate l.rules.length 0) with
    | inl us =>
      obtain ⟨hlen, hb⟩ := inv_end hl (inv0 l xs hs h20) hr
      simp only [Option.bind_some, Sum.elim_inl, weights_prog l us hlen h96 hb, weights_ref l us hlen h96 hb]
      exact ⟨_, rfl, rfl, by rw [List.length_map, List.length_range]; exact h96, fun h => absurd rfl h, fun _ => ⟨trivial, trivial, hg, us, rfl, hlen, hb, rfl⟩⟩
    | inr o =>
      have : ∀ (ys : List Tm) (us : List Int) (o : List Int × Int), runP (learn1 l) ys us = .inr o → o.1 = [] ∧ o.2 ≠ 0 := fun ys => by
        induction ys with
        | nil => intro us o h; cases h
        | cons y ys ih =>
          intro us o h
          rw [runP] at h
          cases hF : learn1 l us y with
          | inl s => rw [hF] at h; exact ih s o h
          | inr b =>
            rw [hF] at h
            cases h
            unfold learn1 at hF
            split at hF
            · cases hF; exact ⟨rfl, by decide⟩
            · split at hF
              · rename_i hne; cases hF; exact ⟨rfl, hne⟩
              · cases hF
      obtain ⟨o1, o2⟩ := this xs _ o hr
      exact ⟨o, rfl, rfl, by rw [o1]; simp, fun _ => o1, fun h => absurd h o2⟩
  · rw [show (c != 0) = true by rw [bne_iff_ne]; exact hc]
    exact ⟨([], c), rfl, rfl, by simp, fun _ => rfl, fun h => absurd h hc⟩
theorem few_guard (l : La) (xs : List Tm) : (Option.bind (synthesislaw38_few l []) fun v1 => bif !v1 then some true else some (decide ((20 : Int) < (xs.length : Int))) : Option Bool) = some true ∨ ((Option.bind (synthesislaw38_few l []) fun v1 => bif !v1 then some true else some (decide ((20 : Int) < (xs.length : Int))) : Option Bool) = some false ∧ xs.length ≤ 20 ∧ l.rules.length ≤ 20) := by
  obtain ⟨b, hb, hf⟩ := few_some l []
  rw [hb]
  cases b with
  | false => exact .inl rfl
  | true =>
    by_cases h : (20 : Int) < (xs.length : Int)
    · rw [decide_eq_true h]; exact .inl rfl
    · rw [decide_eq_false h]; exact .inr ⟨rfl, by omega, (hf rfl).1⟩
end Go.Proofs.Ytpcfkflhnkfjjaa
