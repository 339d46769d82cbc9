/- Terms by their number; the law CountingOrders. -/
import Derived.Test.YtfkddbccogakoaaKe
import Derived.Test.YtfkddbccogakoaaKf
import Derived.Test.YtfkddbccogakoaaKg
set_option linter.unusedVariables false
set_option linter.unusedSimpArgs false
namespace Go.Proofs.Ytfkddbccogakoaa
open Go Go.RowKit

theorem swapN (F : Nat → Nat → Nat) (n : Nat) : ∀ m, NS.sum (fun j => NS.sum (fun i => F i j) n) m = NS.sum (fun i => NS.sum (fun j => F i j) m) n
  | 0 => (NS.sum_zero n fun i _ => rfl).symm
  | m + 1 => by
    rw [SR.sum, swapN F n m, ← NS.sum_add]
    exact NS.sum_congr _ fun i _ => rfl
theorem VN_suc (l : La) (s : Int) (k : Nat) : VN l s (k + 1) = NS.sum (fun i => if symAt l i = s then NS.rr (VN l) (argAt l i) k else 0) l.rules.length := by
  unfold VN
  rw [NS.val_succ]
  refine NS.sum_congr _ fun i _ => ?_
  split
  · exact Nat.one_mul _
  · rfl
/-- by the first rule -/
theorem rr_head (l : La) (y : Int) (tl : List Int) (k : Nat) : NS.rr (VN l) (y :: tl) (k + 1) = ((plL l y l.rules.length).map fun i => NS.rr (VN l) (argAt l i ++ tl) k).sum := by
  rw [SR.rr, sum_plL, NS.sum_shift]
  show VN l y 0 * _ + _ = _
  rw [show VN l y 0 = 0 from rfl, Nat.zero_mul, Nat.zero_add]
  have h1 : NS.sum (fun i => NS.mul (VN l y (i + 1)) (NS.rr (VN l) tl (k + 1 - (i + 1)))) (k + 1) = NS.sum (fun j => NS.sum (fun i => (if symAt l i = y then NS.rr (VN l) (argAt l i) j else 0) * NS.rr (VN l) tl (k - j)) l.rules.length) (k + 1) := NS.sum_congr _ fun j _ => by
    rw [VN_suc, NS.sum_mul, show k + 1 - (j + 1) = k - j by omega]
    exact NS.sum_congr _ fun i _ => rfl
  rw [h1, swapN]
  refine NS.sum_congr _ fun i _ => ?_
  by_cases h : symAt l i = y
  · simp only [if_pos h]
    exact (NS.rr_append (V := VN l) (argAt l i) tl k).symm
  · simp only [if_neg h, Nat.zero_mul]
    exact NS.sum_zero _ fun j _ => rfl
/-- the first rule of number n -/
def pickL (f : Nat → Nat) : List Nat → Nat → Option (Nat × Nat)
  | [], _ => none
  | i :: is, n => if n < f i then some (i, n) else pickL f is (n - f i)
theorem pick_some (f : Nat → Nat) : ∀ (is : List Nat) (n : Nat), n < (is.map f).sum → ∃ pre i post n', is = pre ++ i :: post ∧ pickL f is n = some (i, n') ∧ n' < f i ∧ n = (pre.map f).sum + n'
  | [], n, h => by simp at h
  | i :: is, n, h => by
    rw [List.map_cons, List.sum_cons] at h
    unfold pickL
    by_cases hi : n < f i
    · rw [if_pos hi]
      exact ⟨[], i, is, n, rfl, rfl, hi, by simp⟩
    · rw [if_neg hi]
      obtain ⟨pre, j, post, n', h1, h2, h3, h4⟩ := pick_some f is (n - f i) (by omega)
      exact ⟨i :: pre, j, post, n', by rw [h1]; rfl, h2, h3, by rw [List.map_cons, List.sum_cons]; omega⟩
/-- the terms of number n -/
def chS (l : La) (r : List Int → Nat → List Tm) (tl : List Int) : Option (Nat × Nat) → List Tm
  | none => []
  | some (i, n') => Tm.mk (i : Int) ((r (argAt l i ++ tl) n').take (argAt l i).length) :: (r (argAt l i ++ tl) n').drop (argAt l i).length
def chT (l : La) : Nat → List Int → Nat → List Tm
  | 0, _, _ => []
  | k + 1, [], _ => []
  | k + 1, y :: tl, n => chS l (chT l k) tl (pickL (fun i => NS.rr (VN l) (argAt l i ++ tl) k) (plL l y l.rules.length) n)
theorem chT_at (l : La) {k : Nat} {y : Int} {tl : List Int} {n : Nat} (h : n < NS.rr (VN l) (y :: tl) (k + 1)) : ∃ pre i post n', plL l y l.rules.length = pre ++ i :: post ∧ n' < NS.rr (VN l) (argAt l i ++ tl) k ∧ n = (pre.map fun i => NS.rr (VN l) (argAt l i ++ tl) k).sum + n' ∧
    chT l (k + 1) (y :: tl) n = Tm.mk (i : Int) ((chT l k (argAt l i ++ tl) n').take (argAt l i).length) :: (chT l k (argAt l i ++ tl) n').drop (argAt l i).length := by
  rw [rr_head] at h
  obtain ⟨pre, i, post, n', h1, h2, h3, h4⟩ := pick_some _ _ _ h
  refine ⟨pre, i, post, n', h1, h3, h4, ?_⟩
  show chS l (chT l k) tl (pickL (fun i => NS.rr (VN l) (argAt l i ++ tl) k) (plL l y l.rules.length) n) = _
  rw [h2]
  rfl
theorem rr_nil0 {l : La} {ys : List Int} {n : Nat} (h : n < NS.rr (VN l) ys 0) : ys = [] := by
  cases ys with
  | nil => rfl
  | cons y tl =>
    have := NS.rr_small (V := VN l) (fun a => rfl) (y :: tl) 0 (by rw [List.length_cons]; omega)
    rw [this] at h
    exact absurd h (Nat.not_lt_zero n)
theorem rr_nils {l : La} {k n : Nat} (h : n < NS.rr (VN l) [] (k + 1)) : False := by
  rw [SR.rr, if_neg (by omega)] at h
  exact absurd h (Nat.not_lt_zero n)
theorem chT_len (l : La) : ∀ (k : Nat) (ys : List Int) (n : Nat), n < NS.rr (VN l) ys k → (chT l k ys n).length = ys.length
  | 0, ys, n, h => by rw [rr_nil0 h]; rfl
  | k + 1, [], n, h => (rr_nils h).elim
  | k + 1, y :: tl, n, h => by
    obtain ⟨pre, i, post, n', h1, h2, h3, h4⟩ := chT_at l h
    have ih := chT_len l k _ n' h2
    rw [h4, List.length_cons, List.length_drop, ih, List.length_append, List.length_cons]
    omega
end Go.Proofs.Ytfkddbccogakoaa
set_option linter.unusedVariables false
set_option linter.unusedSimpArgs false
namespace Go.Proofs.Ytfkddbccogakoaa
open Go Go.RowKit

theorem joined_eq (a b : List Int) (h : a.length + b.length ≤ 100000) : counting_joined a b = some (a ++ b) := by
  have hc : mkC 8 (w64 ((a.length : Int) + (b.length : Int))) = some () := by
    rw [w64_eq (by omega) (by omega)]
    unfold mkC
    rw [if_pos (by omega)]
  have h1 : app 8 ([] : List Int) a = some a := app_eq (by rw [List.length_nil]; omega)
  have h2 : app 8 a b = some (a ++ b) := app_eq (by omega)
  unfold counting_joined
  rw [hc, Option.bind_some, h1, Option.bind_some, h2, Option.bind_some]
theorem args_eq {l : La} {r : Ru} (hr : GoodR l r) : counting_args r = some r.args := by
  unfold counting_args
  by_cases h3 : r.kind = 3
  · rw [h3]; rfl
  · rw [show (r.kind != 3) = true by rw [bne_iff_ne]; exact h3, hr.noargs h3]; rfl
theorem rr_long {l : La} {ys : List Int} {k n : Nat} (h : n < NS.rr (VN l) ys k) : ys.length ≤ k := by
  by_cases hl : ys.length ≤ k
  · exact hl
  · have := NS.rr_small (V := VN l) (fun a => rfl) ys k (by omega)
    rw [this] at h
    exact absurd h (Nat.not_lt_zero n)
theorem cut3_take {α : Type} (q : List α) {n : Nat} (h : n ≤ q.length) : cut3 q 0 (n : Int) (n : Int) = some (q.take n) := by
  unfold cut3
  rw [if_pos ⟨by omega, by omega, by omega, by omega⟩]
  simp
theorem cut_drop {α : Type} (q : List α) {n : Nat} (h : n ≤ q.length) : cutL q (n : Int) ((q.length : Nat) : Int) = some (q.drop n) := by
  unfold cutL
  rw [if_pos ⟨by omega, by omega, by omega⟩]
  simp
theorem app_cons {x : Tm} {d : List Tm} (h : d.length ≤ 1000) : (bif List.isEmpty d then some [x] else Option.bind (appN 32 [x] d) fun v => some v : Option (List Tm)) = some (x :: d) := by
  cases d with
  | nil => rfl
  | cons y d =>
    have : appN 32 [x] (y :: d) = some (x :: y :: d) := by
      unfold appN
      show app 32 [x] (y :: d) = _
      rw [app_eq (by rw [List.length_singleton]; omega)]
      rfl
    rw [this]
    rfl
theorem choose_ok {l : La} (hg : GoodL l) : ∀ (f k : Nat) (ys : List Int) (n : Nat) (m : List (ByteArray × Int)), k < f → k ≤ 24 → inR l ys → n < NS.rr (VN l) ys k → n ≤ 1152921504606846976 → KI (VN l) m →
    ∃ m', counting_counter_choose_h2 f l m ys (k : Int) (n : Int) = some (chT l k ys n, m') ∧ KI (VN l) m'
  | 0, k, ys, n, m, h, _, _, _, _, _ => by omega
  | f + 1, k, [], n, m, h, _, _, hn, _, hm => by
    refine ⟨m, ?_, hm⟩
    show counting_counter_choose_h2_b (counting_counter_choose_h2 f) l m [] (k : Int) (n : Int) = _
    cases k with
    | zero => rfl
    | succ k => exact (rr_nils hn).elim
  | f + 1, 0, y :: tl, n, m, h, _, _, hn, _, hm => by
    have := rr_nil0 hn
    cases this
  | f + 1, k + 1, y :: tl, n, m, h, h24, hy, hn, h60, hm => by
    have h96 := hg.rules
    have h16 := hg.sym16
    have htl : inR l tl := fun z hz => hy z (List.mem_cons_of_mem _ hz)
    have hlong := rr_long hn
    rw [List.length_cons] at hlong
    obtain ⟨pre, i, post, n', e1, e2, e3, e4⟩ := chT_at l hn
    show ∃ m', counting_counter_choose_h2_b (counting_counter_choose_h2 f) l m (y :: tl) ((k + 1 : Nat) : Int) (n : Int) = _ ∧ _
    unfold counting_counter_choose_h2_b
    have hl0 : (((y :: tl).length : Int) == 0) = false := by rw [beq_eq_false_iff_ne, List.length_cons]; omega
    have hi0 : idx (y :: tl) 0 = some y := rfl
    rw [hl0, cond_false, hi0, Option.bind_some, of_eq l y (by omega), Option.bind_some]
    have hplen := plL_len l y l.rules.length
    have ew : w64 (((k + 1 : Nat) : Int) - 1) = (k : Int) := by rw [w64_eq (by omega) (by omega)]; omega
    have hL : (plL l y l.rules.length).length = pre.length + (post.length + 1) := by rw [e1, List.length_append, List.length_cons]
    -- one rule's number
    have one : ∀ (q p : Nat) (m3 : List (ByteArray × Int)), (plL l y l.rules.length)[q]? = some p → KI (VN l) m3 → ∃ r m4, ((plL l y l.rules.length).map natI)[q]? = some (p : Int) ∧ l.rules[p]? = some r ∧ counting_args r = some (argAt l p) ∧ counting_joined (argAt l p) tl = some (argAt l p ++ tl) ∧ inR l (argAt l p ++ tl) ∧ counting_counter_lists_h3 (counting_counter_terms_h2 fuel) fuel l m3 (argAt l p ++ tl) (k : Int) = some (en (NS.rr (VN l) (argAt l p ++ tl) k), m4) ∧ KI (VN l) m4 := fun q p m3 hq hm3 => by
      have hpm := plL_mem (List.mem_of_getElem? hq)
      obtain ⟨r, hr, _, hra, hrm⟩ := rule_at l hpm.1
      have gr := hg.good r hrm
      have hf5 := gr.few
      have hin : inR l (argAt l p ++ tl) := fun z hz => by
        rcases List.mem_append.1 hz with hz | hz
        · rw [← hra] at hz; exact gr.args z hz
        · exact htl z hz
      have hlen : (argAt l p ++ tl).length ≤ 100 := by rw [List.length_append, ← hra]; omega
      obtain ⟨m4, s1, s2⟩ := lists_ok (r14 := counting_counter_terms_h2 fuel) (K := k) h16 (by omega) (fun m s k' hm h0 h1 hk1 hk2 => terms_ok hg fuel k' s m (Nat.le_of_lt (lt_fuel (by omega))) hk1 (by omega) h0 h1 hm) fuel (argAt l p ++ tl) k m3 (lt_fuel (by omega)) (by omega) hin (Nat.le_refl _) hm3
      refine ⟨r, m4, by rw [List.getElem?_map, hq]; rfl, hr, by rw [args_eq gr, hra], joined_eq _ _ (by rw [List.length_append] at hlen; omega), hin, s1, s2⟩
    obtain ⟨b, q1, q2⟩ := loop_ex2 (step := counting_counter_choose_h2_l1 l (y :: tl) ((k + 1 : Nat) : Int) (counting_counter_choose_h2 f) ((plL l y l.rules.length).map natI)) pre.length (by omega)
      (fun q st => st.1 = (((((pre.drop q).map fun i => NS.rr (VN l) (argAt l i ++ tl) k).sum + n' : Nat)) : Int) ∧ st.2.1 = (q : Int) ∧ KI (VN l) st.2.2)
      (fun b => ∃ m', b = .inr (chT l (k + 1) (y :: tl) n, m') ∧ KI (VN l) m')
      (fun q st hq hp => by
        left
        obtain ⟨cur, j, m3⟩ := st
        obtain ⟨p1, p2, p3⟩ := hp
        simp only at p1 p2 p3
        subst p1 p2
        have hpq : (plL l y l.rules.length)[q]? = some pre[q] := by rw [e1, List.getElem?_append_left hq]; exact List.getElem?_eq_getElem hq
        obtain ⟨r, m4, o1, o2, o3, o4, o5, o6, o7⟩ := one q pre[q] m3 hpq p3
        have hdrop : pre.drop q = pre[q] :: pre.drop (q + 1) := List.drop_eq_getElem_cons hq
        have hsum : ((pre.drop q).map fun i => NS.rr (VN l) (argAt l i ++ tl) k).sum = NS.rr (VN l) (argAt l pre[q] ++ tl) k + ((pre.drop (q + 1)).map fun i => NS.rr (VN l) (argAt l i ++ tl) k).sum := by rw [hdrop, List.map_cons, List.sum_cons]
        have hbound : ((pre.drop q).map fun i => NS.rr (VN l) (argAt l i ++ tl) k).sum ≤ (pre.map fun i => NS.rr (VN l) (argAt l i ++ tl) k).sum := by
          conv => rhs; rw [← List.take_append_drop q pre, List.map_append, List.sum_append]
          omega
        have hen : en (NS.rr (VN l) (argAt l pre[q] ++ tl) k) = ((NS.rr (VN l) (argAt l pre[q] ++ tl) k : Nat) : Int) := by unfold en; omega
        refine ⟨((((((pre.drop (q + 1)).map fun i => NS.rr (VN l) (argAt l i ++ tl) k).sum + n' : Nat)) : Int), ((q + 1 : Nat) : Int), m4), ?_, rfl, rfl, o7⟩
        have hlt : decide ((q : Int) < ((((plL l y l.rules.length).map natI).length : Nat) : Int)) = true := decide_eq_true (by rw [List.length_map, hL]; omega)
        unfold counting_counter_choose_h2_l1
        simp only
        rw [hlt, cond_true, idx_nat, o1, Option.bind_some, idx_nat, o2, Option.bind_some, o3, Option.bind_some, cut_tail, Option.bind_some, o4, Option.bind_some, ew, o6, Option.bind_some]
        simp only
        rw [hen, decide_eq_true (show ((NS.rr (VN l) (argAt l pre[q] ++ tl) k : Nat) : Int) ≤ (((((pre.drop q).map fun i => NS.rr (VN l) (argAt l i ++ tl) k).sum + n' : Nat)) : Int) by omega), cond_true, w64_eq (by omega) (by omega), w64_succ' (show q < 1000 by omega) (by omega)]
        congr 3
        omega) (fun st hp => by
        obtain ⟨cur, j, m3⟩ := st
        obtain ⟨p1, p2, p3⟩ := hp
        simp only at p1 p2 p3
        subst p1 p2
        have hpq : (plL l y l.rules.length)[pre.length]? = some i := by rw [e1, List.getElem?_append_right (Nat.le_refl _), Nat.sub_self]; rfl
        obtain ⟨r, m4, o1, o2, o3, o4, o5, o6, o7⟩ := one pre.length i m3 hpq p3
        have hn60 : n' ≤ 1152921504606846976 := by omega
        obtain ⟨m5, s1, s2⟩ := choose_ok hg f k (argAt l i ++ tl) n' m4 (by omega) (by omega) o5 e2 hn60 o7
        refine ⟨.inr (chT l (k + 1) (y :: tl) n, m5), ?_, m5, rfl, s2⟩
        have hlt : decide ((pre.length : Int) < ((((plL l y l.rules.length).map natI).length : Nat) : Int)) = true := decide_eq_true (by rw [List.length_map, hL]; omega)
        have hcl := chT_len l k (argAt l i ++ tl) n' e2
        have hlo := rr_long e2
        rw [List.length_append] at hcl hlo
        have hz : ((pre.drop pre.length).map fun i => NS.rr (VN l) (argAt l i ++ tl) k).sum = 0 := by rw [List.drop_length]; rfl
        unfold counting_counter_choose_h2_l1
        simp only
        rw [hlt, cond_true, idx_nat, o1, Option.bind_some, idx_nat, o2, Option.bind_some, o3, Option.bind_some, cut_tail, Option.bind_some, o4, Option.bind_some, ew, o6, Option.bind_some]
        simp only
        rw [hz, Nat.zero_add, decide_eq_false (show ¬ en (NS.rr (VN l) (argAt l i ++ tl) k) ≤ (n' : Int) by unfold en; omega), cond_false, s1, Option.bind_some]
        simp only
        rw [cut3_take _ (by omega), Option.bind_some, cut_drop _ (by omega), Option.bind_some, app_cons (by rw [List.length_drop]; omega), Option.bind_some, e4]) ((n : Int), 0, m) ⟨by rw [e3]; rfl, rfl, hm⟩
    obtain ⟨m', rfl, q3⟩ := q2
    refine ⟨m', ?_, q3⟩
    rw [q1]
    rfl
end Go.Proofs.Ytfkddbccogakoaa
set_option linter.unusedVariables false
set_option linter.unusedSimpArgs false
namespace Go.Proofs.Ytfkddbccogakoaa
open Go Go.RowKit

theorem sizeT_args {t : Tm} : t.size = Tm.sizeL t.args + 1 := by cases t; simp [Tm.size, Tm.args, Nat.add_comm]
theorem pre_mk (g : Tm → Int) (t : Tm) : t.pre g = g t :: Tm.preL g t.args := by cases t; rfl
theorem args_size {t x : Tm} (h : x ∈ t.args) : x.size < t.size := by
  have := Tm.sizeL_mem h
  have := sizeT_args (t := t)
  omega
theorem preL_app (g : Tm → Int) : ∀ a b : List Tm, Tm.preL g (a ++ b) = Tm.preL g a ++ Tm.preL g b
  | [], b => rfl
  | x :: a, b => by
    show x.pre g ++ Tm.preL g (a ++ b) = (x.pre g ++ Tm.preL g a) ++ Tm.preL g b
    rw [preL_app g a b, List.append_assoc]
theorem preL_split (i : Int) (q : List Tm) (a : Nat) : Tm.preL Tm.rule (Tm.mk i (q.take a) :: q.drop a) = i :: Tm.preL Tm.rule q := by
  show (Tm.mk i (q.take a)).pre Tm.rule ++ Tm.preL Tm.rule (q.drop a) = _
  rw [pre_mk]
  show i :: (Tm.preL Tm.rule (q.take a) ++ Tm.preL Tm.rule (q.drop a)) = _
  rw [← preL_app, List.take_append_drop]
theorem chT_size (l : La) : ∀ (k : Nat) (ys : List Int) (n : Nat), n < NS.rr (VN l) ys k → Tm.sizeL (chT l k ys n) = k := fun k ys n h => by
  rw [← Tm.preL_length Tm.rule]
  induction k generalizing ys n with
  | zero => rfl
  | succ k ih =>
    cases ys with
    | nil => exact (rr_nils h).elim
    | cons y tl =>
      obtain ⟨pre, i, post, n', _, h2, _, h4⟩ := chT_at l h
      rw [h4, preL_split, List.length_cons, ih _ n' h2]
theorem plL_sorted (l : La) (s : Int) (n : Nat) : (plL l s n).Pairwise (· < ·) := List.Pairwise.filter _ List.pairwise_lt_range
def zeroT : Tm := Tm.mk 0 []
/-- the term of a number, or the error -/
def termC (l : La) (c s k n : Int) : Tm × Int :=
  if errC l c s k ≠ 0 then (zeroT, errC l c s k) else
  if (ansC (VN l s k.toNat)).2 ≠ 0 then (zeroT, (ansC (VN l s k.toNat)).2) else
  if n < 0 ∨ (ansC (VN l s k.toNat)).1 ≤ n then (zeroT, 1) else ((chT l k.toNat [s] n.toNat).headD zeroT, 0)
theorem rr_sing (l : La) (s : Int) (k : Nat) : NS.rr (VN l) [s] k = VN l s k := (NS.rr_one _ _ _).trans (NS.mul_one _)
theorem term_prog {l : La} (hg : GoodL l) {c s k n : Int} (hc : grammar_Check l = some c) : counting_Term l s k n = some (termC l c s k n) := by
  unfold counting_Term termC
  rw [count_prog hg hc, Option.bind_some]
  by_cases he : errC l c s k = 0
  · obtain ⟨_, h1, h2, h3, h4⟩ := errC_zero he
    obtain ⟨q, rfl⟩ := Int.eq_ofNat_of_zero_le (show 0 ≤ k by omega)
    rw [he, if_neg (by simp), if_neg (by simp), Int.toNat_natCast]
    by_cases ha : (ansC (VN l s q)).2 = 0
    · rw [ha, bne_self_eq_false, if_neg (by simp), cond_false]
      have hx : ¬ (1152921504606846976 : Int) < en (VN l s q) := by
        intro hx
        unfold ansC at ha
        rw [if_pos hx] at ha
        cases ha
      have hv : (ansC (VN l s q)).1 = en (VN l s q) := by unfold ansC; rw [if_neg hx]
      have hen := en_small hx
      rw [hv]
      by_cases hn : n < 0
      · rw [decide_eq_true hn, if_pos (.inl hn)]; rfl
      · by_cases hn2 : en (VN l s q) ≤ n
        · rw [decide_eq_false hn, decide_eq_true hn2, if_pos (.inr hn2)]; rfl
        · rw [decide_eq_false hn, decide_eq_false hn2, if_neg (by intro h; exact h.elim hn hn2)]
          obtain ⟨p, rfl⟩ := Int.eq_ofNat_of_zero_le (show 0 ≤ n by omega)
          have hlt : p < NS.rr (VN l) [s] q := by rw [rr_sing]; omega
          obtain ⟨m', t1, _⟩ := choose_ok hg fuel q [s] p [] (lt_fuel (by omega)) (by omega) (fun y hy => by rcases List.mem_cons.1 hy with rfl | hy; exact ⟨h1, h2⟩; cases hy) hlt (by omega) (KI.nil _)
          have hlen := chT_len l q [s] p hlt
          simp only [cond_false, Option.bind_some]
          rw [open_eq, Option.bind_some, t1, Option.bind_some, Int.toNat_natCast]
          cases hq : chT l q [s] p with
          | nil => rw [hq] at hlen; cases hlen
          | cons t ts => rfl
    · rw [show ((ansC (VN l s q)).2 != 0) = true by rw [bne_iff_ne]; exact ha, if_pos ha]
      rfl
  · rw [if_pos he, if_pos he]
    simp only
    rw [show (errC l c s k != 0) = true by rw [bne_iff_ne]; exact he]
    rfl
theorem termC_ok {l : La} {c s k n : Int} (h : (termC l c s k n).2 = 0) : 1 ≤ k ∧ k ≤ 24 ∧ 0 ≤ n ∧ n.toNat < NS.rr (VN l) [s] k.toNat ∧ (termC l c s k n).1 = (chT l k.toNat [s] n.toNat).headD zeroT := by
  unfold termC at h ⊢
  by_cases he : errC l c s k = 0
  · obtain ⟨_, h1, h2, h3, h4⟩ := errC_zero he
    rw [he, if_neg (by simp)] at h ⊢
    by_cases ha : (ansC (VN l s k.toNat)).2 = 0
    · rw [ha, if_neg (by simp)] at h ⊢
      have hx : ¬ (1152921504606846976 : Int) < en (VN l s k.toNat) := by
        intro hx
        unfold ansC at ha
        rw [if_pos hx] at ha
        cases ha
      have hv : (ansC (VN l s k.toNat)).1 = en (VN l s k.toNat) := by unfold ansC; rw [if_neg hx]
      have hen := en_small hx
      rw [hv] at h ⊢
      by_cases hn : n < 0 ∨ en (VN l s k.toNat) ≤ n
      · rw [if_pos hn] at h; cases h
      · rw [if_neg hn]
        exact ⟨h3, h4, by omega, by rw [rr_sing]; omega, rfl⟩
    · rw [if_pos ha] at h; exact absurd h ha
  · rw [if_pos he] at h; exact absurd h he
theorem head_rules {l : La} {s : Int} {k n : Nat} (h : n < NS.rr (VN l) [s] k) : ((chT l k [s] n).headD zeroT).rules = Tm.preL Tm.rule (chT l k [s] n) ∧ ((chT l k [s] n).headD zeroT).size = k := by
  have hlen := chT_len l k [s] n h
  have hsz := chT_size l k [s] n h
  cases hq : chT l k [s] n with
  | nil => rw [hq] at hlen; cases hlen
  | cons t ts =>
    cases ts with
    | cons t2 ts => rw [hq] at hlen; cases hlen
    | nil =>
      rw [hq] at hsz
      refine ⟨?_, ?_⟩
      · show t.pre Tm.rule = t.pre Tm.rule ++ []
        rw [List.append_nil]
      · show t.size = k
        have : Tm.sizeL [t] = t.size + 0 := rfl
        omega
end Go.Proofs.Ytfkddbccogakoaa
