/- The least size is the least size with a term; the law CountingSums. -/
import Derived.Test.YtfkddbccogakoaaKf
set_option linter.unusedVariables false
set_option linter.unusedSimpArgs false
namespace Go.Proofs.Ytfkddbccogakoaa
open Go Go.RowKit

theorem flag_true : ∀ (rs : List Ru) (o : List Int), (rs.foldl stpC (true, o)).1 = true
  | [], o => rfl
  | r :: rs, o => by
    rw [List.foldl_cons]
    unfold stpC
    split
    · exact flag_true rs _
    · exact flag_true rs _
theorem no_imp : ∀ (rs : List Ru) (o : List Int), rs.foldl stpC (false, o) = (false, o) → ∀ r ∈ rs, imp o r = false
  | [], o, _, r, hr => nomatch hr
  | q :: rs, o, h, r, hr => by
    rw [List.foldl_cons] at h
    cases hi : imp o q with
    | true =>
      rw [show stpC (false, o) q = (true, o.set q.symbol.toNat (rc o q)) by unfold stpC; rw [if_pos (by simpa using hi)]] at h
      have := flag_true rs (o.set q.symbol.toNat (rc o q))
      rw [h] at this
      cases this
    | false =>
      rw [show stpC (false, o) q = (false, o) by unfold stpC; rw [if_neg (by simp [hi])]] at h
      rcases List.mem_cons.1 hr with rfl | hr
      · exact hi
      · exact no_imp rs o h r hr
theorem conv_fix {n : Nat} {rs : List Ru} (hr : ∀ r ∈ rs, RG n r) : ∀ (k : Nat) (o : List Int) (m : Int), 0 ≤ m → OkO n o → (∀ r ∈ rs, imp o r = true → m < rc o r) → n ≤ cntm n o m + k →
    rs.foldl stpC (false, it (fun o => rs.foldl stpR o) k o) = (false, it (fun o => rs.foldl stpR o) k o)
  | k, o, m, hm, ho, hp, hk => by
    have hsnd : (rs.foldl stpC (false, o)).2 = rs.foldl stpR o := fold_snd rs (false, o)
    rcases round_or hr hm ho hp with h | ⟨c1, m', c2, c3, c4, c5⟩
    · rw [h] at hsnd
      have hfix : it (fun o => rs.foldl stpR o) k o = o := it_fix hsnd.symm k
      rw [hfix]
      exact h
    · match k with
      | 0 => have := cntm_le n (rs.foldl stpC (false, o)).2 m'; omega
      | k + 1 =>
        have := conv_fix hr k _ m' c2 c3 c4 (by omega)
        rw [hsnd] at this
        exact this
theorem sum_ge (f : Nat → Nat) : ∀ (n i : Nat), i < n → f i ≤ NS.sum f n
  | 0, i, h => by omega
  | n + 1, i, h => by
    show f i ≤ NS.sum f n + f n
    by_cases hi : i = n
    · rw [hi]; omega
    · have := sum_ge f n i (by omega); omega
theorem sum_pos (f : Nat → Nat) : ∀ (n : Nat), 0 < NS.sum f n → ∃ i, i < n ∧ 0 < f i
  | 0, h => by exact absurd h (Nat.lt_irrefl 0)
  | n + 1, h => by
    have h : 0 < NS.sum f n + f n := h
    by_cases hf : 0 < f n
    · exact ⟨n, by omega, hf⟩
    · obtain ⟨i, h1, h2⟩ := sum_pos f n (by omega)
      exact ⟨i, by omega, h2⟩
/-- every known size is that of a term -/
def Rz (l : La) (o : List Int) : Prop := ∀ s, 0 ≤ s → s < (l.symbols.length : Int) → 0 < at0 o s → 0 < VN l s (at0 o s).toNat
theorem rr_pos {l : La} {o : List Int} (ho : OkO l.symbols.length o) (hz : Rz l o) : ∀ (ys : List Int) (n : Int), inR l ys → 1 ≤ n → costF o ys n ≠ 0 → 0 < NS.rr (VN l) ys (costF o ys n - n).toNat
  | [], n, _, hn, h => by
    rw [show (costF o [] n - n).toNat = 0 by simp [costF], SR.rr, if_pos rfl]
    exact Nat.one_pos
  | a :: ys, n, hy, hn, h => by
    have ha := hy a (List.mem_cons_self ..)
    have hnn : ∀ b ∈ (a :: ys), 0 ≤ at0 o b := fun b hb => ho.nn (hy b hb).1 (hy b hb).2
    have h0 := hnn a (List.mem_cons_self ..)
    unfold costF at h ⊢
    by_cases hza : at0 o a = 0
    · rw [if_pos hza] at h; exact absurd rfl h
    · rw [if_neg hza] at h ⊢
      rcases costF_ge (o := o) ys (n + at0 o a) (fun b hb => hnn b (List.mem_cons_of_mem _ hb)) (by omega) with h1 | ⟨h1, _⟩
      · exact absurd h1 h
      · have hrec := rr_pos ho hz ys (n + at0 o a) (fun b hb => hy b (List.mem_cons_of_mem _ hb)) (by omega) h
        rw [SR.rr]
        refine Nat.lt_of_lt_of_le ?_ (sum_ge _ _ (at0 o a).toNat (by omega))
        have hv := hz a ha.1 ha.2 (by omega)
        rw [show (costF o ys (n + at0 o a) - n).toNat - (at0 o a).toNat = (costF o ys (n + at0 o a) - (n + at0 o a)).toNat by omega]
        exact Nat.mul_pos hv hrec
theorem VN_succ (l : La) (s : Int) (k : Nat) : VN l s (k + 1) = NS.sum (fun i => if symAt l i = s then 1 * NS.rr (VN l) (argAt l i) k else 0) l.rules.length := NS.val_succ _ _ _ _ _ _
theorem Rz.step {l : La} {o : List Int} (ho : OkO l.symbols.length o) (hz : Rz l o) {r : Ru} (hmem : r ∈ l.rules) (hr : RG l.symbols.length r) : Rz l (stpR o r) := by
  unfold stpR
  split
  · rename_i hi
    obtain ⟨hc, _⟩ := imp_iff.1 hi
    intro s s0 s1 hp
    rw [at0_set hr.s0 (by rw [ho.len]; exact hr.s1) s0] at hp ⊢
    by_cases hs : s = r.symbol
    · rw [if_pos hs]
      obtain ⟨i, hi2, hir⟩ := List.mem_iff_getElem.1 hmem
      have hpos := rr_pos ho hz r.args 1 hr.args (by omega) (show costF o r.args 1 ≠ 0 by unfold rc at hc; omega)
      have hrc : (rc o r).toNat = (costF o r.args 1 - 1).toNat + 1 := by unfold rc at hc ⊢; omega
      rw [hrc, VN_succ]
      refine Nat.lt_of_lt_of_le ?_ (sum_ge _ _ i hi2)
      have e1 : symAt l i = s := by unfold symAt; rw [List.getElem?_eq_getElem hi2, hir, hs]; rfl
      have e2 : argAt l i = r.args := by unfold argAt; rw [List.getElem?_eq_getElem hi2, hir]; rfl
      show 0 < if symAt l i = s then 1 * NS.rr (VN l) (argAt l i) (costF o r.args 1 - 1).toNat else 0
      rw [if_pos e1, e2, Nat.one_mul]
      exact hpos
    · rw [if_neg hs] at hp ⊢
      exact hz s s0 s1 hp
  · exact hz
theorem fold_rz {l : La} : ∀ (rs : List Ru) (o : List Int), (∀ r ∈ rs, r ∈ l.rules ∧ RG l.symbols.length r) → OkO l.symbols.length o → Rz l o → Rz l (rs.foldl stpR o) ∧ OkO l.symbols.length (rs.foldl stpR o)
  | [], o, _, ho, hz => ⟨hz, ho⟩
  | r :: rs, o, h, ho, hz => by
    obtain ⟨h1, h2⟩ := h r (List.mem_cons_self ..)
    exact fold_rz rs _ (fun q hq => h q (List.mem_cons_of_mem _ hq)) (stpR_ok ho h2) (Rz.step ho hz h1 h2)
theorem it_rz {l : La} (hr : ∀ r ∈ l.rules, RG l.symbols.length r) : ∀ (k : Nat) (o : List Int), OkO l.symbols.length o → Rz l o → Rz l (it (fun o => l.rules.foldl stpR o) k o) ∧ OkO l.symbols.length (it (fun o => l.rules.foldl stpR o) k o)
  | 0, o, ho, hz => ⟨hz, ho⟩
  | k + 1, o, ho, hz => by
    obtain ⟨h1, h2⟩ := fold_rz l.rules o (fun r h => ⟨h, hr r h⟩) ho hz
    exact it_rz hr k _ h2 h1
theorem at_zero (n : Nat) (s : Int) : at0 (List.replicate n 0) s = 0 := by
  unfold at0
  rw [List.getElem?_replicate]
  split <;> rfl
theorem cost_small {l : La} {o : List Int} (ho : OkO l.symbols.length o) : ∀ (ys : List Int) (k : Nat) (n : Int), inR l ys → 1 ≤ n → (∀ a, 0 ≤ a → a < (l.symbols.length : Int) → ∀ j, j ≤ k → 0 < VN l a j → 0 < at0 o a ∧ at0 o a ≤ (j : Int)) → 0 < NS.rr (VN l) ys k → 0 < costF o ys n ∧ costF o ys n ≤ n + (k : Int)
  | [], k, n, _, hn, _, _ => by unfold costF; omega
  | a :: ys, k, n, hy, hn, h, hp => by
    have ha := hy a (List.mem_cons_self ..)
    rw [SR.rr] at hp
    obtain ⟨j, hj, hjp⟩ := sum_pos _ _ hp
    have hjp : 0 < VN l a j * NS.rr (VN l) ys (k - j) := hjp
    have h1 := Nat.pos_of_mul_pos_right hjp
    have h2 := Nat.pos_of_mul_pos_left hjp
    have hv : 0 < VN l a j := by
      rcases Nat.eq_zero_or_pos (VN l a j) with h0 | h0
      · rw [h0, Nat.zero_mul] at hjp; exact absurd hjp (Nat.lt_irrefl 0)
      · exact h0
    have hq : 0 < NS.rr (VN l) ys (k - j) := by
      rcases Nat.eq_zero_or_pos (NS.rr (VN l) ys (k - j)) with h0 | h0
      · rw [h0, Nat.mul_zero] at hjp; exact absurd hjp (Nat.lt_irrefl 0)
      · exact h0
    obtain ⟨g1, g2⟩ := h a ha.1 ha.2 j (by omega) hv
    unfold costF
    rw [if_neg (by omega)]
    have := cost_small ho ys (k - j) (n + at0 o a) (fun b hb => hy b (List.mem_cons_of_mem _ hb)) (by omega) (fun b b0 b1 i hi => h b b0 b1 i (by omega)) hq
    omega
theorem least_low {l : La} (hg : GoodL l) {o : List Int} (ho : OkO l.symbols.length o) (hfix : ∀ r ∈ l.rules, imp o r = false) : ∀ (k : Nat) (s : Int), 0 ≤ s → s < (l.symbols.length : Int) → 0 < VN l s k → 0 < at0 o s ∧ at0 o s ≤ (k : Int) := by
  intro k
  induction k using Nat.strongRecOn with
  | _ k ih =>
    intro s s0 s1 hv
    match k with
    | 0 => exact absurd hv (Nat.lt_irrefl 0)
    | k + 1 =>
      rw [VN_succ] at hv
      obtain ⟨i, hi, hip⟩ := sum_pos _ _ hv
      obtain ⟨y, hy, hys, hya, hmem⟩ := rule_at l hi
      have gy := hg.good y hmem
      have hsym : symAt l i = s := by
        by_cases h : symAt l i = s
        · exact h
        · simp only [if_neg h] at hip; exact absurd hip (Nat.lt_irrefl 0)
      simp only [if_pos hsym, Nat.one_mul] at hip
      rw [← hya] at hip
      obtain ⟨c1, c2⟩ := cost_small ho y.args k 1 gy.args (by omega) (fun a a0 a1 j hj hvj => ih j (by omega) a a0 a1 hvj) hip
      have hno := hfix y hmem
      have hnn := ho.nn s0 s1
      have hsy : y.symbol = s := hys.trans hsym
      have : ¬ (0 < rc o y ∧ (at0 o y.symbol = 0 ∨ rc o y < at0 o y.symbol)) := fun h => by rw [imp_iff.2 h] at hno; cases hno
      rw [hsy] at this
      unfold rc at this
      omega
/-- the least sizes -/
theorem least_facts (l : La) (hl : wideL l) {c : Int} (hc : grammar_Check l = some c) (hgood : c = 0 → GoodL l) : ∃ o, counting_Least l = some (o, c) ∧ (c = 0 → o.length = l.symbols.length ∧ ∀ s, 0 ≤ s → s < (l.symbols.length : Int) → idx o s = some (at0 o s) ∧ (∀ k, 0 < VN l s k → 0 < at0 o s ∧ at0 o s ≤ (k : Int)) ∧ (0 < at0 o s → 0 < VN l s (at0 o s).toNat)) := by
  unfold counting_Least
  rw [hc, Option.bind_some]
  by_cases h0 : c = 0
  · subst h0
    have hg := hgood rfl
    have h96 := hg.rules
    have h16 := hg.sym16
    have hr := good_rg hg
    have hrg : ∀ r ∈ l.rules, RG l.symbols.length r := fun r h => (hr r h).1
    have p := conv hrg (counting_Least_l2 l) (fun o ho => by
      simp only [counting_Least_l2, cond_true, round_prog l h16 h96 hr ho, Option.bind_some]) (fun o => by simp only [counting_Least_l2, cond_false]) l.symbols.length (List.replicate l.symbols.length 0) 0 (fuel - l.symbols.length - 2) (Int.le_refl _) (zero_okO _) (fun r _ h => zero_imp (n := 0) _ h) (by omega)
    rw [show fuel - l.symbols.length - 2 + l.symbols.length + 2 = fuel by unfold fuel; omega] at p
    have hfix := conv_fix hrg l.symbols.length (List.replicate l.symbols.length 0) 0 (Int.le_refl _) (zero_okO _) (fun r _ h => zero_imp (n := 0) _ h) (by omega)
    obtain ⟨hz, ho⟩ := it_rz hrg l.symbols.length (List.replicate l.symbols.length 0) (zero_okO _) (fun s _ _ h => by rw [at_zero] at h; exact absurd h (by omega))
    rw [bne_self_eq_false, cond_false, mkL_eq 8 (0 : Int) l.symbols.length (by omega), Option.bind_some, p, Option.bind_some]
    refine ⟨_, rfl, fun _ => ⟨ho.len, fun s s0 s1 => ⟨at0_idx s0 (by rw [ho.len]; exact s1), fun k hk => least_low hg ho (no_imp _ _ hfix) k s s0 s1 hk, hz s s0 s1⟩⟩⟩
  · rw [show (c != 0) = true by rw [bne_iff_ne]; exact h0]
    exact ⟨[], rfl, fun h => absurd h h0⟩
theorem en_small {n : Nat} (h : ¬ (1152921504606846976 : Int) < en n) : en n = (n : Int) := by unfold en at *; omega
theorem sums_loop {l : La} (hg : GoodL l) (hc : grammar_Check l = some 0) {o : List Int} {s : Int} (s0 : 0 ≤ s) (s1 : s < (l.symbols.length : Int)) (hi : idx o s = some (at0 o s)) (hlow : ∀ k, 0 < VN l s k → 0 < at0 o s ∧ at0 o s ≤ (k : Int)) (hat : 0 < at0 o s → 0 < VN l s (at0 o s).toNat) (e : Int) {n : Nat} (hn : n ≤ 24) :
    ∃ b, loopN (synthesislaw12_CountingSums_l1 l s (n : Int) (o, e)) fuel (0, 1) = some b ∧ (b = .inl (en (totC l s n)) ∨ b = .inr true) := by
  refine loop_ex2 (step := synthesislaw12_CountingSums_l1 l s (n : Int) (o, e)) n (by omega) (fun i st => st = (en (totC l s i), ((i + 1 : Nat) : Int))) (fun b => b = .inl (en (totC l s n)) ∨ b = .inr true) (fun i st hin hp => ?_) (fun st hp => ?_) (0, 1) rfl
  · subst hp
    have hle : decide (((i + 1 : Nat) : Int) ≤ (n : Int)) = true := decide_eq_true (by omega)
    have hcount := count_prog (s := s) (k := ((i + 1 : Nat) : Int)) hg hc
    have herr : errC l 0 s ((i + 1 : Nat) : Int) = 0 := by
      unfold errC badQ
      rw [if_neg (by simp), decide_eq_false (by omega), decide_eq_false (by omega), decide_eq_false (by omega), decide_eq_false (by omega)]
      rfl
    rw [herr, if_neg (by simp), Int.toNat_natCast] at hcount
    have hsum : totC l s (i + 1) = totC l s i + VN l s (i + 1) := rfl
    have ew : w64 (((i + 1 : Nat) : Int) + 1) = ((i + 1 + 1 : Nat) : Int) := by rw [w64_eq (by omega) (by omega)]; omega
    unfold synthesislaw12_CountingSums_l1
    simp only
    rw [hle, cond_true, hcount, Option.bind_some, awake12]
    unfold ansC
    by_cases hx : (1152921504606846976 : Int) < en (VN l s (i + 1))
    · right
      rw [if_pos hx]
      exact ⟨.inr true, rfl, .inr rfl⟩
    · left
      rw [if_neg hx]
      refine ⟨(en (totC l s (i + 1)), ((i + 1 + 1 : Nat) : Int)), ?_, rfl⟩
      simp only [bne_self_eq_false, cond_false]
      have hen := en_small hx
      rw [ew, plus_en, ← hsum, hi]
      have hneg : decide (en (VN l s (i + 1)) < 0) = false := decide_eq_false (by omega)
      rw [hneg]
      by_cases hv : 0 < VN l s (i + 1)
      · obtain ⟨g1, g2⟩ := hlow (i + 1) hv
        have d1 : decide (0 < en (VN l s (i + 1))) = true := decide_eq_true (by omega)
        have d2 : decide (at0 o s < 1) = false := decide_eq_false (by omega)
        have d3 : decide (((i + 1 : Nat) : Int) < at0 o s) = false := decide_eq_false (by omega)
        have d4 : (en (VN l s (i + 1)) == 0) = false := by rw [beq_eq_false_iff_ne]; omega
        rw [d1, d4]
        simp only [cond_true, cond_false, Option.bind_some, d2, d3]
      · have hv0 : VN l s (i + 1) = 0 := by omega
        have d1 : decide (0 < en (VN l s (i + 1))) = false := decide_eq_false (by omega)
        have d4 : (en (VN l s (i + 1)) == 0) = true := by rw [beq_iff_eq]; omega
        have d5 : (((i + 1 : Nat) : Int) == at0 o s) = false := by
          rw [beq_eq_false_iff_ne]
          intro h
          have := hat (by omega)
          rw [← h, Int.toNat_natCast, hv0] at this
          exact absurd this (Nat.lt_irrefl 0)
        rw [d1, d4]
        simp only [cond_true, cond_false, Option.bind_some, d5]
  · subst hp
    have hle : decide (((n + 1 : Nat) : Int) ≤ (n : Int)) = false := decide_eq_false (by omega)
    refine ⟨.inl (en (totC l s n)), ?_, .inl rfl⟩
    unfold synthesislaw12_CountingSums_l1
    simp only
    rw [hle, cond_false]
theorem law_CountingSums (l : La) (s k : Int) (hl : wideL l) (_ : InI64 s) (_ : InI64 k) : synthesislaw12_CountingSums l s k = some true := by
  obtain ⟨b, b1, b2⟩ := small_leaf l
  obtain ⟨c, c1, c2, c3⟩ := lang_u l hl
  obtain ⟨o, o1, o2⟩ := least_facts l hl c1 c3
  unfold synthesislaw12_CountingSums
  rw [b1, awake12, o1, Option.bind_some]
  cases b with
  | false => rfl
  | true =>
    by_cases hk1 : k < 1
    · rw [decide_eq_true hk1]; rfl
    · by_cases hk2 : 24 < k
      · rw [decide_eq_false hk1, decide_eq_true hk2]; rfl
      · rw [decide_eq_false hk1, decide_eq_false hk2]
        obtain ⟨n, rfl⟩ := Int.eq_ofNat_of_zero_le (show 0 ≤ k by omega)
        simp only [Bool.not_true, cond_false, Option.bind_some]
        by_cases hc : c = 0
        · subst hc
          have hg := c3 rfl
          obtain ⟨hlen, hfacts⟩ := o2 rfl
          rw [bne_self_eq_false, hlen]
          by_cases hs : s < 0
          · rw [decide_eq_true hs]
            simp only [cond_true, cond_false, Option.bind_some, beq_self_eq_true]
          · by_cases hs2 : (l.symbols.length : Int) ≤ s
            · rw [decide_eq_false hs, decide_eq_true hs2]
              simp only [cond_true, cond_false, Option.bind_some, beq_self_eq_true]
            · rw [decide_eq_false hs, decide_eq_false hs2]
              simp only [cond_false, Option.bind_some]
              obtain ⟨f1, f2, f3⟩ := hfacts s (by omega) (by omega)
              obtain ⟨v, q1, q2⟩ := sums_loop hg c1 (show 0 ≤ s by omega) (show s < (l.symbols.length : Int) by omega) f1 f2 f3 0 (show n ≤ 24 by omega)
              rw [q1, Option.bind_some]
              rcases q2 with rfl | rfl
              · have ht := total_prog (s := s) (k := (n : Int)) hg c1
                have herr : errC l 0 s (n : Int) = 0 := by
                  unfold errC badQ
                  rw [if_neg (by simp), decide_eq_false (by omega), decide_eq_false (by omega), decide_eq_false (by omega), decide_eq_false (by omega)]
                  rfl
                rw [herr, if_neg (by simp), Int.toNat_natCast] at ht
                simp only [Sum.elim_inl]
                rw [ht, Option.bind_some]
                unfold ansC
                by_cases hx : (1152921504606846976 : Int) < en (totC l s n)
                · rw [decide_eq_true hx, if_pos hx]; rfl
                · rw [decide_eq_false hx, if_neg hx]
                  simp only [cond_false, cond_true, beq_self_eq_true, Option.bind_some]
              · rfl
        · rw [show (c != 0) = true by rw [bne_iff_ne]; exact hc]
          rfl
end Go.Proofs.Ytfkddbccogakoaa
