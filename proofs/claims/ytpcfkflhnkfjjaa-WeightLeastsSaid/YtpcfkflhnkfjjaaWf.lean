/- Least costs: the program's table and the recursion of the specification; the law WeightLeasts. -/
import Derived.Test.YtpcfkflhnkfjjaaWd
import Derived.Test.YtpcfkflhnkfjjaaSr
set_option linter.unusedVariables false
set_option linter.unusedSimpArgs false
namespace Go.Proofs.Ytpcfkflhnkfjjaa
open Go Go.RowKit

abbrev ON := Option Nat
def omin : ON → ON → ON
  | none, b => b
  | a, none => a
  | some a, some b => some (min a b)
def oadd : ON → ON → ON
  | some a, some b => some (a + b)
  | _, _ => none
theorem omin_none (a : ON) : omin a none = a := by cases a <;> rfl
def MP : SR ON where
  add := omin
  mul := oadd
  zero := none
  one := some 0
  add_assoc := fun a b c => by cases a <;> cases b <;> cases c <;> simp [omin, Nat.min_assoc]
  add_comm := fun a b => by cases a <;> cases b <;> simp [omin, Nat.min_comm]
  zero_add := fun a => by cases a <;> rfl
  mul_assoc := fun a b c => by cases a <;> cases b <;> cases c <;> simp [oadd, Nat.add_assoc]
  mul_comm := fun a b => by cases a <;> cases b <;> simp [oadd, Nat.add_comm]
  mul_add := fun a b c => by cases a <;> cases b <;> cases c <;> simp [oadd, omin, Nat.add_min_add_left]
  mul_zero := fun a => by cases a <;> rfl
  mul_one := fun a => by cases a <;> simp [oadd]
/-- at most n, or nothing -/
def BN (n : Nat) (x : ON) : Prop := ∀ v, x = some v → v ≤ n
theorem BN.none {n : Nat} : BN n none := fun v h => by cases h
theorem BN.mono {m n : Nat} {x : ON} (h : BN m x) (hm : m ≤ n) : BN n x := fun v hv => Nat.le_trans (h v hv) hm
theorem BN.omin {n : Nat} {x y : ON} (h : BN n x) (k : BN n y) : BN n (omin x y) := fun v hv => by
  cases x with
  | none => exact k v hv
  | some a =>
    cases y with
    | none => exact h v hv
    | some b =>
      have h1 := h a rfl
      have hv : some (min a b) = some v := hv
      cases hv
      omega
theorem BN.oadd {m n : Nat} {x y : ON} (h : BN m x) (k : BN n y) : BN (m + n) (oadd x y) := fun v hv => by
  cases x with
  | none => cases hv
  | some a =>
    cases y with
    | none => cases hv
    | some b =>
      have h1 := h a rfl
      have h2 := k b rfl
      have hv : some (a + b) = some v := hv
      cases hv
      omega
theorem BN.sum {m : Nat} {f : Nat → ON} : ∀ n, (∀ i, i < n → BN m (f i)) → BN m (MP.sum f n)
  | 0, _ => BN.none
  | n + 1, h => (BN.sum n fun i hi => h i (by omega)).omin (h n (by omega))
theorem BN.rr {V : Int → Nat → ON} : ∀ (ys : List Int) (n : Nat), (∀ a k, k ≤ n → BN (1000 * k) (V a k)) → BN (1000 * n) (MP.rr V ys n)
  | [], n, _ => by
    rw [SR.rr]
    split
    · intro v hv
      have hv : some 0 = some v := hv
      cases hv; omega
    · exact BN.none
  | a :: ys, n, h => by
    rw [SR.rr]
    refine BN.sum _ fun k hk => ?_
    have := (h a k (by omega)).oadd (BN.rr ys (n - k) fun b j hj => h b j (by omega))
    rw [show 1000 * k + 1000 * (n - k) = 1000 * n by omega] at this
    exact this
def argAt (l : La) (k : Nat) : List Int := ((l.rules[k]?).getD zeroR).args
def wAt (w : List Int) (k : Nat) : ON := some ((w[k]?).getD 0).toNat
def tabW (l : La) (w : List Int) : Nat → Int → Nat → ON := MP.tab l.rules.length (symAt l) (argAt l) (wAt w)
def valW (l : La) (w : List Int) : Int → Nat → ON := MP.val l.rules.length (symAt l) (argAt l) (wAt w)
theorem tabW_bd {l : La} {w : List Int} (hw : ∀ x ∈ w, 0 ≤ x ∧ x ≤ 1000) : ∀ (n : Nat) (s : Int) (k : Nat), BN (1000 * k) (tabW l w n s k)
  | 0, s, k => BN.none
  | n + 1, s, k => by
    show BN (1000 * k) (if k = n + 1 then _ else tabW l w n s k)
    split
    · rename_i hk
      subst hk
      refine BN.sum _ fun i hi => ?_
      split
      · have h1 : BN 1000 (wAt w i) := fun v hv => by
          unfold wAt at hv
          cases hv
          cases he : w[i]? with
          | none => simp
          | some x => have := hw x (List.mem_of_getElem? he); simp only [Option.getD_some]; omega
        have h2 := h1.oadd (BN.rr (V := tabW l w n) (argAt l i) n fun a k _ => tabW_bd hw n a k)
        exact h2.mono (by omega)
      · exact BN.none
    · exact tabW_bd hw n s k
theorem valW_bd {l : La} {w : List Int} (hw : ∀ x ∈ w, 0 ≤ x ∧ x ≤ 1000) (s : Int) (k : Nat) : BN (1000 * k) (valW l w s k) := tabW_bd hw k s k
theorem wAt_some {l : La} {w : List Int} (hw : ∀ x ∈ w, 0 ≤ x ∧ x ≤ 1000) {i : Nat} (h : i < w.length) : ∃ n : Nat, n ≤ 1000 ∧ w[i]? = some (n : Int) ∧ wAt w i = some n := by
  have e : w[i]? = some w[i] := List.getElem?_eq_getElem h
  have := hw w[i] (List.getElem_mem h)
  refine ⟨w[i].toNat, by omega, by rw [e, Int.toNat_of_nonneg this.1], ?_⟩
  unfold wAt
  rw [e]
  rfl
def e1 : ON → Int
  | none => 1099511627776
  | some v => (v : Int)
def e2 : ON → Int
  | none => -1
  | some v => (v : Int)
theorem e1_bd {x : ON} (h : BN 100000 x) : 0 ≤ e1 x ∧ e1 x ≤ 1099511627776 := by
  cases x with
  | none => exact ⟨by decide, by decide⟩
  | some v =>
    have := h v rfl
    show 0 ≤ (v : Int) ∧ (v : Int) ≤ 1099511627776
    omega
theorem imin_l {a b : Int} (h : a ≤ b) : imin a b = a := by unfold imin; rw [if_neg (by omega)]
theorem imin_r {a b : Int} (h : b < a) : imin a b = b := by unfold imin; rw [if_pos h]
theorem comb1 {x a b : ON} (hx : BN 100000 x) (ha : BN 100000 a) (hb : BN 100000 b) : imin (e1 x) (w64 (e1 a + e1 b)) = e1 (omin x (oadd a b)) := by
  have hx' := e1_bd hx
  have ha' := e1_bd ha
  have hb' := e1_bd hb
  rw [w64_eq (by omega) (by omega)]
  cases a with
  | none =>
    have h0 : e1 none = 1099511627776 := rfl
    rw [show oadd none b = none by cases b <;> rfl, omin_none, imin_l (by omega)]
  | some a =>
    cases b with
    | none =>
      have h0 : e1 none = 1099511627776 := rfl
      rw [show oadd (some a) none = none from rfl, omin_none, imin_l (by omega)]
    | some b =>
      have h1 := ha a rfl
      have h2 := hb b rfl
      cases x with
      | none =>
        show imin 1099511627776 ((a : Int) + (b : Int)) = ((a + b : Nat) : Int)
        rw [imin_r (by omega)]
        omega
      | some x =>
        show imin (x : Int) ((a : Int) + (b : Int)) = ((min x (a + b) : Nat) : Int)
        unfold imin
        split <;> omega
def rowE (e : ON → Int) (f : Nat → ON) (n : Nat) : List Int := (List.range n).map fun m => e (f m)
theorem rowE_len (e : ON → Int) (f : Nat → ON) (n : Nat) : (rowE e f n).length = n := by simp [rowE]
theorem rowE_at (e : ON → Int) (f : Nat → ON) {n k : Nat} (h : k < n) : (rowE e f n)[k]? = some (e (f k)) := by simp [rowE, h]
theorem rowE_congr (e : ON → Int) {f g : Nat → ON} {n : Nat} (h : ∀ m, m < n → f m = g m) : rowE e f n = rowE e g n := by
  unfold rowE
  exact List.map_congr_left fun m hm => by rw [h m (List.mem_range.1 hm)]
theorem rowE_set (e : ON → Int) (f : Nat → ON) (n k : Nat) (v : ON) : (rowE e f n).set k (e v) = rowE e (fun m => if m = k then v else f m) n := by
  refine List.ext_getElem? fun i => ?_
  rw [List.getElem?_set, rowE_len]
  by_cases hk : k = i
  · subst hk
    rw [if_pos rfl]
    split
    · rename_i h; rw [rowE_at _ _ h, if_pos rfl]
    · rename_i h; rw [List.getElem?_eq_none (by rw [rowE_len]; omega)]
  · rw [if_neg hk]
    by_cases hi : i < n
    · rw [rowE_at _ _ hi, rowE_at _ _ hi, if_neg (fun h => hk h.symm)]
    · rw [List.getElem?_eq_none (by rw [rowE_len]; omega), List.getElem?_eq_none (by rw [rowE_len]; omega)]
theorem rep_row (e : ON → Int) (v : ON) (n : Nat) : List.replicate n (e v) = rowE e (fun _ => v) n := by
  refine List.ext_getElem? fun i => ?_
  by_cases hi : i < n
  · rw [rowE_at _ _ hi, List.getElem?_replicate, if_pos hi]
  · rw [List.getElem?_replicate, if_neg hi, List.getElem?_eq_none (by rw [rowE_len]; omega)]
def tabL (T : Int → Nat → ON) (n m : Nat) : List (List Int) := (List.range n).map fun s : Nat => rowE e1 (T (s : Int)) m
theorem tabL_len (T : Int → Nat → ON) (n m : Nat) : (tabL T n m).length = n := by simp [tabL]
theorem tabL_idx (T : Int → Nat → ON) {n m : Nat} {s : Int} (h : 0 ≤ s ∧ s < (n : Int)) : idx (tabL T n m) s = some (rowE e1 (T s) m) := by
  obtain ⟨k, rfl⟩ := Int.eq_ofNat_of_zero_le h.1
  rw [idx_nat]
  have hk : k < n := by omega
  simp [tabL, hk]
theorem tabL_congr {T T' : Int → Nat → ON} {n m : Nat} (h : ∀ s k, k < m → T s k = T' s k) : tabL T n m = tabL T' n m := by
  unfold tabL
  exact List.map_congr_left fun s hs => rowE_congr _ fun k hk => h _ k hk
theorem tabL_set (T : Int → Nat → ON) {n m : Nat} {s : Int} (h : 0 ≤ s ∧ s < (n : Int)) (f : Nat → ON) : (tabL T n m).set s.toNat (rowE e1 f m) = tabL (fun q => if q = s then f else T q) n m := by
  obtain ⟨k, rfl⟩ := Int.eq_ofNat_of_zero_le h.1
  refine List.ext_getElem? fun i => ?_
  rw [List.getElem?_set, tabL_len]
  have at_ : ∀ (T : Int → Nat → ON) (i : Nat), i < n → (tabL T n m)[i]? = some (rowE e1 (T (i : Int)) m) := fun T i hi => by simp [tabL, hi]
  have hk : k < n := by omega
  by_cases hki : k = i
  · subst hki
    rw [Int.toNat_natCast, if_pos rfl, if_pos hk, at_ _ _ hk, if_pos rfl]
  · rw [Int.toNat_natCast, if_neg hki]
    by_cases hi : i < n
    · rw [at_ _ _ hi, at_ _ _ hi, if_neg (by omega)]
    · rw [List.getElem?_eq_none (by rw [tabL_len]; omega), List.getElem?_eq_none (by rw [tabL_len]; omega)]
theorem repeat_eq : ∀ {n : Nat}, 1 ≤ n → n ≤ 15 → slices_Repeat_int_int_h [1099511627776] (n : Int) = some (rowE e1 (fun _ => none) n)
  | 0, h, _ => absurd h (by omega)
  | 1, _, _ => by kernel_rfl
  | 2, _, _ => by kernel_rfl
  | 3, _, _ => by kernel_rfl
  | 4, _, _ => by kernel_rfl
  | 5, _, _ => by kernel_rfl
  | 6, _, _ => by kernel_rfl
  | 7, _, _ => by kernel_rfl
  | 8, _, _ => by kernel_rfl
  | 9, _, _ => by kernel_rfl
  | 10, _, _ => by kernel_rfl
  | 11, _, _ => by kernel_rfl
  | 12, _, _ => by kernel_rfl
  | 13, _, _ => by kernel_rfl
  | 14, _, _ => by kernel_rfl
  | 15, _, _ => by kernel_rfl
  | n + 16, _, h => absurd h (by omega)
theorem sums_l1 {T : Int → Nat → ON} {ns M p : Nat} {a : Int} (ha : 0 ≤ a ∧ a < (ns : Int)) (hp : p < M) (hp2 : p ≤ 14) {i : Nat} (hi : i ≤ p) (x : List Int) (oi : ON) (g : Nat → ON) (hT : ∀ k, k ≤ p → BN 100000 (T a k)) (ho : BN 100000 oi) (hg : ∀ m, m ≤ p → BN 100000 (g m)) :
    loopN (weight_table_sums_h_l1 (tabL T ns M) (p : Int) a ((i : Int), x) (e1 oi)) fuel (1, rowE e1 g (p + 1)) = some (rowE e1 (fun m => if i < m then omin (g m) (oadd oi (T a (m - i))) else g m) (p + 1)) := by
  have h := loop_end (step := weight_table_sums_h_l1 (tabL T ns M) (p : Int) a ((i : Int), x) (e1 oi)) (p - i) (by omega) (fun j => (((j + 1 : Nat) : Int), rowE e1 (fun m => if i < m ∧ m ≤ i + j then omin (g m) (oadd oi (T a (m - i))) else g m) (p + 1))) (rowE e1 (fun m => if i < m then omin (g m) (oadd oi (T a (m - i))) else g m) (p + 1)) (fun j hj => by
    have ew : w64 ((i : Int) + ((j + 1 : Nat) : Int)) = ((i + j + 1 : Nat) : Int) := by rw [w64_eq (by omega) (by omega)]; omega
    have ew2 : w64 (((j + 1 : Nat) : Int) + 1) = ((j + 1 + 1 : Nat) : Int) := by rw [w64_eq (by omega) (by omega)]; omega
    have hle : decide (((i + j + 1 : Nat) : Int) ≤ (p : Int)) = true := decide_eq_true (by omega)
    have e3 : (rowE e1 (fun m => if i < m ∧ m ≤ i + j then omin (g m) (oadd oi (T a (m - i))) else g m) (p + 1))[i + j + 1]? = some (e1 (g (i + j + 1))) := by rw [rowE_at _ _ (by omega), if_neg (by omega)]
    have e4 : (rowE e1 (T a) M)[j + 1]? = some (e1 (T a (j + 1))) := rowE_at _ _ (by omega)
    simp only [weight_table_sums_h_l1, ew, ew2, hle, cond_true, idx_nat, e3, e4, tabL_idx T ha, Option.bind_some, comb1 (hg (i + j + 1) (by omega)) ho (hT (j + 1) (by omega)), Int.toNat_natCast, rowE_set]
    congr 3
    refine rowE_congr _ fun m hm => ?_
    by_cases h1 : m = i + j + 1
    · subst h1
      rw [if_pos rfl, if_pos (by omega), show i + j + 1 - i = j + 1 by omega]
    · rw [if_neg h1]
      by_cases h2 : i < m ∧ m ≤ i + j
      · rw [if_pos h2, if_pos (by omega)]
      · rw [if_neg h2, if_neg (by omega)]) (by
    have ew : w64 ((i : Int) + ((p - i + 1 : Nat) : Int)) = ((p + 1 : Nat) : Int) := by rw [w64_eq (by omega) (by omega)]; omega
    have hle : decide (((p + 1 : Nat) : Int) ≤ (p : Int)) = false := decide_eq_false (by omega)
    simp only [weight_table_sums_h_l1, ew, hle, cond_false]
    congr 2
    refine rowE_congr _ fun m hm => ?_
    by_cases h2 : i < m
    · rw [if_pos h2, if_pos (by omega)]
    · rw [if_neg h2, if_neg (by omega)])
  rw [show rowE e1 g (p + 1) = rowE e1 (fun m => if i < m ∧ m ≤ i + 0 then omin (g m) (oadd oi (T a (m - i))) else g m) (p + 1) from rowE_congr _ fun m hm => by rw [if_neg (by omega)]]
  exact h
theorem sums_l2 {T : Int → Nat → ON} {ns M p : Nat} {a : Int} (ha : 0 ≤ a ∧ a < (ns : Int)) (hp : p < M) (hp2 : p ≤ 14) (z : Int) (o : Nat → ON) (hT : ∀ k, k ≤ p → BN (1000 * k) (T a k)) (hT0 : T a 0 = none) (ho : ∀ k, k ≤ p → BN (1000 * k) (o k)) :
    loopN (weight_table_sums_h_l2 (tabL T ns M) (p : Int) (z, rowE e1 o (p + 1)) a) fuel (0, rowE e1 (fun _ => none) (p + 1)) = some (rowE e1 (MP.conv o (T a)) (p + 1)) := by
  have h := loop_end (step := weight_table_sums_h_l2 (tabL T ns M) (p : Int) (z, rowE e1 o (p + 1)) a) (p + 1) (by omega) (fun j => ((j : Int), rowE e1 (fun m => MP.sum (fun i => oadd (o i) (T a (m - i))) (min j m)) (p + 1))) (rowE e1 (MP.conv o (T a)) (p + 1)) (fun j hj => by
    have hg : ∀ m, m ≤ p → BN 100000 (MP.sum (fun i => oadd (o i) (T a (m - i))) (min j m)) := fun m hm => BN.sum _ fun i hi => ((ho i (by omega)).oadd (hT (m - i) (by omega))).mono (by omega)
    have e1' := rowE_at e1 o hj
    simp only [weight_table_sums_h_l2, rowE_len, lt_len hj, cond_true, idx_nat, e1', Option.bind_some, sums_l1 ha hp hp2 (show j ≤ p by omega) _ (o j) _ (fun k hk => (hT k hk).mono (by omega)) ((ho j (by omega)).mono (by omega)) hg, w64_succ' hj (show p + 1 ≤ 9223372036854775807 by omega)]
    congr 3
    refine rowE_congr _ fun m hm => ?_
    by_cases h1 : j < m
    · rw [if_pos h1, show min j m = j by omega, show min (j + 1) m = j + 1 by omega]; rfl
    · rw [if_neg h1, show min j m = m by omega, show min (j + 1) m = m by omega]) (by
    have hl := rowE_len e1 o (p + 1)
    simp only [weight_table_sums_h_l2, hl, lt_len', cond_false]
    congr 2
    refine rowE_congr _ fun m hm => ?_
    unfold SR.conv
    rw [SR.sum, show min (p + 1) m = m by omega, Nat.sub_self, hT0]
    exact (omin_none _).symm.trans (by rw [show MP.mul (o m) none = none from MP.mul_zero _]; rfl))
  rw [show rowE e1 (fun _ => none) (p + 1) = rowE e1 (fun m => MP.sum (fun i => oadd (o i) (T a (m - i))) (min 0 m)) (p + 1) from rowE_congr _ fun m hm => by rw [Nat.zero_min]; rfl]
  exact h
theorem sums_fold {T : Int → Nat → ON} {ns M p : Nat} (hp : p < M) (hp2 : p ≤ 14) (hT : ∀ a k, k ≤ p → BN (1000 * k) (T a k)) (hT0 : ∀ a, T a 0 = none) : ∀ (ys : List Int) (o : Nat → ON), (∀ a ∈ ys, 0 ≤ a ∧ a < (ns : Int)) → (∀ k, k ≤ p → BN (1000 * k) (o k)) →
    ys.foldlM (fun (s : List Int) a => Option.bind (slices_Repeat_int_int_h [1099511627776] ((p + 1 : Nat) : Int)) fun v5 => loopN (weight_table_sums_h_l2 (tabL T ns M) (p : Int) (0, s) a) fuel (0, v5)) (rowE e1 o (p + 1)) = some (rowE e1 (MP.lf T o ys) (p + 1))
  | [], o, _, _ => rfl
  | a :: ys, o, ha, ho => by
    have hh : (Option.bind (slices_Repeat_int_int_h [1099511627776] ((p + 1 : Nat) : Int)) fun v5 => loopN (weight_table_sums_h_l2 (tabL T ns M) (p : Int) (0, rowE e1 o (p + 1)) a) fuel (0, v5)) = some (rowE e1 (MP.conv o (T a)) (p + 1)) := by
      rw [repeat_eq (by omega) (by omega), Option.bind_some, sums_l2 (ha a (List.mem_cons_self ..)) hp hp2 0 o (hT a) (hT0 a) ho]
    rw [List.foldlM_cons, hh]
    refine sums_fold hp hp2 hT hT0 ys (MP.conv o (T a)) (fun b hb => ha b (List.mem_cons_of_mem _ hb)) fun k hk => ?_
    refine BN.sum _ fun i hi => ?_
    have := (ho i (by omega)).oadd (hT a (k - i) (by omega))
    exact this.mono (by omega)
theorem sums_eq {T : Int → Nat → ON} {ns M p : Nat} (hp : p < M) (hp2 : p ≤ 14) (hT : ∀ a k, k ≤ p → BN (1000 * k) (T a k)) (hT0 : ∀ a, T a 0 = none) (ys : List Int) (hl : ys.length ≤ 5) (ha : ∀ a ∈ ys, 0 ≤ a ∧ a < (ns : Int)) :
    weight_table_sums_h (tabL T ns M) ys (p : Int) = some (rowE e1 (MP.rr T ys) (p + 1)) := by
  have ew : w64 ((p : Int) + 1) = ((p + 1 : Nat) : Int) := by rw [w64_eq (by omega) (by omega)]; omega
  have e0 : idx (rowE e1 (fun _ => none) (p + 1)) 0 = some (e1 none) := by
    have := rowE_at e1 (fun _ => none) (show 0 < p + 1 by omega)
    rw [show (0 : Int) = ((0 : Nat) : Int) from rfl, idx_nat, this]
  have es : (rowE e1 (fun _ => none) (p + 1)).set (Int.toNat 0) 0 = rowE e1 MP.dlt (p + 1) := by
    have := rowE_set e1 (fun _ => none) (p + 1) 0 (some 0)
    refine Eq.trans this (rowE_congr _ fun m hm => ?_)
    rfl
  unfold weight_table_sums_h
  rw [ew, repeat_eq (by omega) (by omega)]
  simp only [Option.bind_some, e0, es]
  rw [loop_acc (step := weight_table_sums_h_l3 (tabL T ns M) ys (p : Int)) ys (fun (s : List Int) a => Option.bind (slices_Repeat_int_int_h [1099511627776] ((p + 1 : Nat) : Int)) fun v5 => loopN (weight_table_sums_h_l2 (tabL T ns M) (p : Int) (0, s) a) fuel (0, v5)) (fun i s => (i, s)) (by omega) (fun i a s hx => by
    have hi := get_lt hx
    have hl2 : weight_table_sums_h_l2 (tabL T ns M) (p : Int) ((i : Int), s) a = weight_table_sums_h_l2 (tabL T ns M) (p : Int) (0, s) a := rfl
    simp only [weight_table_sums_h_l3, lt_len hi, cond_true, idx_nat, hx, Option.bind_some, ew, hl2, w64_succ' hi (show ys.length ≤ 9223372036854775807 by omega)]
    cases slices_Repeat_int_int_h [1099511627776] ((p + 1 : Nat) : Int) with
    | none => rfl
    | some v => simp only [Option.bind_some]; cases loopN (weight_table_sums_h_l2 (tabL T ns M) (p : Int) (0, s) a) fuel (0, v) <;> rfl) (fun s => by simp only [weight_table_sums_h_l3, lt_len', cond_false])]
  rw [sums_fold hp hp2 hT hT0 ys MP.dlt ha fun k hk => by
    unfold SR.dlt
    split
    · intro v hv; have hv : some 0 = some v := hv; cases hv; omega
    · exact BN.none]
  simp only [Option.bind_some]
  congr 1
  exact rowE_congr _ fun m _ => MP.lf_dlt T ys m
end Go.Proofs.Ytpcfkflhnkfjjaa
