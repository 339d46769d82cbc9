/- The reference's ways and table; Count and Total of both texts; the law CountingCounts. -/
import Derived.Test.YtfkddbccogakoaaKc
import Derived.Test.YtfkddbccogakoaaKb
set_option linter.unusedVariables false
set_option linter.unusedSimpArgs false
namespace Go.Proofs.Ytfkddbccogakoaa
open Go Go.RowKit

theorem loop_ex {σ β : Type} {step : σ → Option (σ ⊕ β)} (n : Nat) (hn : n < 18446744073709551616) (P : Nat → σ → Prop) (Q : β → Prop) (hs : ∀ i s, i < n → P i s → ∃ s', step s = some (.inl s') ∧ P (i + 1) s') (he : ∀ s, P n s → ∃ b, step s = some (.inr b) ∧ Q b) (s : σ) (h0 : P 0 s) : ∃ b, loopN step fuel s = some b ∧ Q b := by
  have key : ∀ (k i : Nat) (s : σ), i ≤ n → n - i < k → P i s → ∃ b, loopN step k s = some b ∧ Q b := by
    intro k
    induction k with
    | zero => intro i s _ h; omega
    | succ k ih =>
      intro i s hi hk hp
      by_cases h : i = n
      · subst h
        obtain ⟨b, h1, h2⟩ := he s hp
        refine ⟨b, ?_, h2⟩
        unfold loopN
        rw [h1]
      · obtain ⟨s', h1, h2⟩ := hs i s (by omega) hp
        obtain ⟨b, h3, h4⟩ := ih (i + 1) s' (by omega) (by omega) h2
        refine ⟨b, ?_, h4⟩
        unfold loopN
        rw [h1]
        cases k with
        | zero => cases h3
        | succ k => exact h3
  exact key fuel 0 s (by omega) (lt_fuel (by omega)) h0
def VN (l : La) : Int → Nat → Nat := NS.val l.rules.length (symAt l) (argAt l) (fun _ => 1)
def inR (l : La) (ys : List Int) : Prop := ∀ y ∈ ys, 0 ≤ y ∧ y < (l.symbols.length : Int)
theorem inR.byt {l : La} (h16 : l.symbols.length ≤ 16) {ys : List Int} (h : inR l ys) : ∀ y ∈ ys, Byt y := fun y hy => by
  have := h y hy
  unfold Byt
  omega
theorem cut_head (a : Int) (ys : List Int) : cutL (a :: ys) 0 1 = some [a] := by
  unfold cutL
  rw [if_pos ⟨by omega, by omega, by rw [List.length_cons]; omega⟩]
  rfl
theorem cut_tail {α : Type} (a : α) (ys : List α) : cutL (a :: ys) 1 (((a :: ys).length : Nat) : Int) = some ys := by
  unfold cutL
  rw [if_pos ⟨by omega, by rw [List.length_cons]; omega, by omega⟩, Int.toNat_natCast, List.take_length]
  rfl
theorem lists_ok {l : La} (h16 : l.symbols.length ≤ 16) {r14 : La → List (ByteArray × Int) → Int → Int → Option (Int × List (ByteArray × Int))} {K : Nat} (hK : K ≤ 24) (hr : ∀ m s k, KI (VN l) m → 0 ≤ s → s < (l.symbols.length : Int) → 1 ≤ k → k ≤ K → ∃ m', r14 l m s (k : Int) = some (en (VN l s k), m') ∧ KI (VN l) m') :
    ∀ (n : Nat) (ys : List Int) (k : Nat) (m : List (ByteArray × Int)), ys.length < n → ys.length ≤ 1000 → inR l ys → k ≤ K → KI (VN l) m → ∃ m', counting_counter_lists_h3 r14 n l m ys (k : Int) = some (en (NS.rr (VN l) ys k), m') ∧ KI (VN l) m'
  | 0, ys, k, m, h, _, _, _, _ => by omega
  | n + 1, [], k, m, _, _, _, hk, hm => by
    refine ⟨m, ?_, hm⟩
    show counting_counter_lists_h3_b r14 (counting_counter_lists_h3 r14 n) l m [] (k : Int) = _
    unfold counting_counter_lists_h3_b
    rw [show ((([] : List Int).length : Int) == 0) = true from rfl]
    simp only [cond_true, Option.bind_some]
    rw [SR.rr]
    by_cases h0 : k = 0
    · subst h0; rfl
    · rw [show ((k : Int) == 0) = false by rw [beq_eq_false_iff_ne]; omega, if_neg h0]; rfl
  | n + 1, a :: ys, k, m, h, h1000, hy, hk, hm => by
    have hby := hy.byt h16
    have ha := hy a (List.mem_cons_self ..)
    have hys : inR l ys := fun y h => hy y (List.mem_cons_of_mem _ h)
    show ∃ m', counting_counter_lists_h3_b r14 (counting_counter_lists_h3 r14 n) l m (a :: ys) (k : Int) = _ ∧ _
    unfold counting_counter_lists_h3_b
    have hl0 : (((a :: ys).length : Int) == 0) = false := by rw [beq_eq_false_iff_ne, List.length_cons]; omega
    rw [List.length_cons] at h h1000
    rw [hl0]
    simp only [cond_false]
    by_cases hlt : k < (a :: ys).length
    · rw [decide_eq_true (show (k : Int) < ((a :: ys).length : Int) by omega)]
      refine ⟨m, ?_, hm⟩
      rw [NS.rr_small (fun b => rfl) (a :: ys) k hlt]
      rfl
    · rw [decide_eq_false (show ¬ (k : Int) < ((a :: ys).length : Int) by omega)]
      simp only [cond_false, Option.bind_some, key_eq (a :: ys) (k : Int) (by rw [List.length_cons]; omega)]
      cases hh : mhas m (keyB (a :: ys) (k : Int)) with
      | true =>
        refine ⟨m, ?_, hm⟩
        rw [hm.has hby (by omega) hh]
        rfl
      | false =>
        simp only [cond_false]
        have fin : ∀ (m2 : List (ByteArray × Int)), KI (VN l) m2 → KI (VN l) (mput m2 (keyB (a :: ys) (k : Int)) (en (NS.rr (VN l) (a :: ys) k))) := fun m2 h2 => h2.put hby (by omega)
        cases ys with
        | nil =>
          obtain ⟨m2, r1, r2⟩ := hr m a k hm ha.1 ha.2 (by rw [List.length_cons] at hlt; omega) hk
          refine ⟨_, ?_, fin m2 r2⟩
          rw [show ((([a] : List Int).length : Int) == 1) = true from rfl]
          have h0 : idx [a] 0 = some a := rfl
          have hv : NS.rr (VN l) [a] k = VN l a k := (NS.rr_one _ _ _).trans (NS.mul_one _)
          simp only [cond_true, h0, Option.bind_some, r1, hv]
        | cons b zs =>
          have hl1 : (((a :: b :: zs).length : Int) == 1) = false := by rw [beq_eq_false_iff_ne, List.length_cons, List.length_cons]; omega
          rw [hl1]
          simp only [cond_false]
          rw [List.length_cons] at h h1000
          have hlen : (a :: b :: zs).length = zs.length + 2 := rfl
          rw [hlen] at hlt
          have ew : w64 (w64 ((k : Int) - (((a :: b :: zs).length : Nat) : Int)) + 1) = ((k - (zs.length + 2) + 1 : Nat) : Int) := by
            rw [hlen, w64_eq (n := (k : Int) - ((zs.length + 2 : Nat) : Int)) (by omega) (by omega), w64_eq (by omega) (by omega)]
            omega
          obtain ⟨b2, q1, q2, q3⟩ := loop_ex (step := counting_counter_lists_h3_l1 l (a :: b :: zs) (k : Int) (counting_counter_lists_h3 r14 n)) (k - (zs.length + 2) + 1) (by omega)
            (fun i s => s.1 = en (NS.sum (fun j => VN l a (j + 1) * NS.rr (VN l) (b :: zs) (k - (j + 1))) i) ∧ s.2.1 = (i : Int) ∧ KI (VN l) s.2.2)
            (fun v => v.1 = en (NS.sum (fun j => VN l a (j + 1) * NS.rr (VN l) (b :: zs) (k - (j + 1))) (k - (zs.length + 2) + 1)) ∧ KI (VN l) v.2)
            (fun i s hi hp => by
              obtain ⟨acc, j, m3⟩ := s
              obtain ⟨p1, p2, p3⟩ := hp
              simp only at p1 p2 p3
              subst p1 p2
              have e1 : w64 ((i : Int) + 1) = ((i + 1 : Nat) : Int) := w64_succ' hi (by omega)
              have e2 : w64 (w64 ((k : Int) - (i : Int)) - 1) = ((k - (i + 1) : Nat) : Int) := by
                rw [w64_eq (n := (k : Int) - (i : Int)) (by omega) (by omega), w64_eq (by omega) (by omega)]
                omega
              obtain ⟨m4, s1, s2⟩ := lists_ok h16 hK hr n [a] (i + 1) m3 (by rw [List.length_singleton]; omega) (by rw [List.length_singleton]; omega) (fun y hy' => hy y (by rcases List.mem_cons.1 hy' with rfl | hy'; exact List.mem_cons_self ..; cases hy')) (by omega) p3
              obtain ⟨m5, s3, s4⟩ := lists_ok h16 hK hr n (b :: zs) (k - (i + 1)) m4 (by rw [List.length_cons]; omega) (by rw [List.length_cons]; omega) hys (by omega) s2
              have hv : NS.rr (VN l) [a] (i + 1) = VN l a (i + 1) := (NS.rr_one _ _ _).trans (NS.mul_one _)
              rw [hv] at s1
              refine ⟨(en (NS.sum (fun j => VN l a (j + 1) * NS.rr (VN l) (b :: zs) (k - (j + 1))) (i + 1)), ((i + 1 : Nat) : Int), m5), ?_, rfl, rfl, s4⟩
              simp only [counting_counter_lists_h3_l1, ew, decide_eq_true (show (i : Int) < ((k - (zs.length + 2) + 1 : Nat) : Int) by omega), cond_true, cut_head, Option.bind_some, e1, s1, cut_tail, e2, s3, times_en, plus_en]
              rfl) (fun s hp => by
              obtain ⟨acc, j, m3⟩ := s
              obtain ⟨p1, p2, p3⟩ := hp
              simp only at p1 p2 p3
              subst p1 p2
              refine ⟨(en (NS.sum (fun j => VN l a (j + 1) * NS.rr (VN l) (b :: zs) (k - (j + 1))) (k - (zs.length + 2) + 1)), m3), ?_, rfl, p3⟩
              simp only [counting_counter_lists_h3_l1, ew, lt_len', cond_false]) (0, 0, m) ⟨rfl, rfl, hm⟩
          have hval : NS.sum (fun j => VN l a (j + 1) * NS.rr (VN l) (b :: zs) (k - (j + 1))) (k - (zs.length + 2) + 1) = NS.rr (VN l) (a :: b :: zs) k := by
            have hg : NS.sum (fun j => VN l a (j + 1) * NS.rr (VN l) (b :: zs) (k - (j + 1))) k = NS.sum (fun j => VN l a (j + 1) * NS.rr (VN l) (b :: zs) (k - (j + 1))) (k - (zs.length + 2) + 1) := NS.sum_trunc k (by omega) fun i h1 h2 => by
              show VN l a (i + 1) * NS.rr (VN l) (b :: zs) (k - (i + 1)) = 0
              rw [NS.rr_small (fun c => rfl) (b :: zs) (k - (i + 1)) (by rw [List.length_cons]; omega)]
              exact Nat.mul_zero _
            rw [← hg, SR.rr]
            refine Eq.trans ?_ (NS.sum_shift _ k).symm
            show _ = VN l a 0 * NS.rr (VN l) (b :: zs) (k - 0) + NS.sum (fun j => VN l a (j + 1) * NS.rr (VN l) (b :: zs) (k - (j + 1))) k
            rw [show VN l a 0 = 0 from rfl, Nat.zero_mul, Nat.zero_add]
          rw [hval] at q2
          obtain ⟨acc, m6⟩ := b2
          simp only at q2 q3
          subst q2
          refine ⟨_, ?_, fin m6 q3⟩
          rw [q1]
          rfl
theorem sum_plL (l : La) (s : Int) (f : Nat → Nat) : ∀ n, ((plL l s n).map f).sum = NS.sum (fun i => if symAt l i = s then f i else 0) n
  | 0 => rfl
  | n + 1 => by
    rw [plL_succ, List.map_append, List.sum_append, sum_plL l s f n, SR.sum]
    by_cases h : symAt l n = s
    · rw [if_pos (by simpa using h), if_pos h]
      show _ + [f n].sum = _ + f n
      simp
    · rw [if_neg (by simpa using h), if_neg h]
      rfl
theorem args_h_eq {l : La} {r : Ru} (hr : GoodR l r) : counting_args_h r = some r.args := by
  unfold counting_args_h
  by_cases h3 : r.kind = 3
  · rw [h3]; rfl
  · rw [show (r.kind != 3) = true by rw [bne_iff_ne]; exact h3, hr.noargs h3]; rfl
theorem terms_ok {l : La} (hg : GoodL l) : ∀ (n k : Nat) (s : Int) (m : List (ByteArray × Int)), k ≤ n → 1 ≤ k → k ≤ 24 → 0 ≤ s → s < (l.symbols.length : Int) → KI (VN l) m → ∃ m', counting_counter_terms_h2 n l m s (k : Int) = some (en (VN l s k), m') ∧ KI (VN l) m'
  | 0, k, s, m, h, h1, _, _, _, _ => by omega
  | n + 1, k + 1, s, m, h, h1, h24, hs0, hs1, hm => by
    have h96 := hg.rules
    have h16 := hg.sym16
    show ∃ m', counting_counter_terms_h2_b (counting_counter_terms_h2 n) l m s ((k + 1 : Nat) : Int) = _ ∧ _
    unfold counting_counter_terms_h2_b
    rw [ofh_eq l s (by omega), Option.bind_some]
    have ew : w64 (((k + 1 : Nat) : Int) - 1) = (k : Int) := by rw [w64_eq (by omega) (by omega)]; omega
    have hpl := plL_len l s l.rules.length
    obtain ⟨b2, q1, q2, q3⟩ := loop_ex (step := counting_counter_terms_h2_l1 l ((k + 1 : Nat) : Int) (counting_counter_terms_h2 n) ((plL l s l.rules.length).map natI)) (plL l s l.rules.length).length (by omega)
      (fun i st => st.1 = en (((plL l s l.rules.length).take i).map fun q => NS.rr (VN l) (argAt l q) k).sum ∧ st.2.1 = (i : Int) ∧ KI (VN l) st.2.2)
      (fun v => v.1 = en ((plL l s l.rules.length).map fun q => NS.rr (VN l) (argAt l q) k).sum ∧ KI (VN l) v.2)
      (fun i st hi hp => by
        obtain ⟨acc, j, m3⟩ := st
        obtain ⟨p1, p2, p3⟩ := hp
        simp only at p1 p2 p3
        subst p1 p2
        have hq : (plL l s l.rules.length)[i]? = some (plL l s l.rules.length)[i] := List.getElem?_eq_getElem hi
        have hqm := plL_mem (List.getElem_mem hi)
        have hq2 : ((plL l s l.rules.length).map natI)[i]? = some ((((plL l s l.rules.length)[i] : Nat)) : Int) := by rw [List.getElem?_map, hq]; rfl
        obtain ⟨y, hy, _, hya, hymem⟩ := rule_at l hqm.1
        have gy := hg.good y hymem
        have hfew := gy.few
        obtain ⟨m4, s1, s2⟩ := lists_ok (r14 := counting_counter_terms_h2 n) (K := k) h16 (by omega) (fun m s k' hm h0 h1 hk1 hk2 => terms_ok hg n k' s m (by omega) hk1 (by omega) h0 h1 hm) fuel y.args k m3 (lt_fuel (by omega)) (by omega) gy.args (Nat.le_refl _) p3
        have htk : (plL l s l.rules.length).take (i + 1) = (plL l s l.rules.length).take i ++ [(plL l s l.rules.length)[i]] := List.take_succ_eq_append_getElem hi
        refine ⟨(en (((plL l s l.rules.length).take (i + 1)).map fun q => NS.rr (VN l) (argAt l q) k).sum, ((i + 1 : Nat) : Int), m4), ?_, rfl, rfl, s2⟩
        simp only [counting_counter_terms_h2_l1, List.length_map, lt_len hi, cond_true, idx_nat, hq2, Option.bind_some, hy, args_h_eq gy, ew, s1, w64_succ' hi (show (plL l s l.rules.length).length ≤ 9223372036854775807 by omega), plus_en]
        rw [htk, List.map_append, List.sum_append, hya]
        show some _ = some _
        simp) (fun st hp => by
        obtain ⟨acc, j, m3⟩ := st
        obtain ⟨p1, p2, p3⟩ := hp
        simp only at p1 p2 p3
        subst p1 p2
        refine ⟨(en ((plL l s l.rules.length).map fun q => NS.rr (VN l) (argAt l q) k).sum, m3), ?_, rfl, p3⟩
        simp only [counting_counter_terms_h2_l1, List.length_map, lt_len', cond_false, List.take_length]) (0, 0, m) ⟨rfl, rfl, hm⟩
    have hval : ((plL l s l.rules.length).map fun q => NS.rr (VN l) (argAt l q) k).sum = VN l s (k + 1) := by
      rw [sum_plL]
      unfold VN
      rw [NS.val_succ]
      refine NS.sum_congr _ fun i hi => ?_
      split
      · exact (Nat.one_mul _).symm
      · rfl
    rw [hval] at q2
    obtain ⟨acc, m6⟩ := b2
    simp only at q2 q3
    subst q2
    refine ⟨m6, ?_, q3⟩
    rw [q1]
    rfl
end Go.Proofs.Ytfkddbccogakoaa
set_option linter.unusedVariables false
set_option linter.unusedSimpArgs false
namespace Go.Proofs.Ytfkddbccogakoaa
open Go Go.RowKit

end Go.Proofs.Ytfkddbccogakoaa
