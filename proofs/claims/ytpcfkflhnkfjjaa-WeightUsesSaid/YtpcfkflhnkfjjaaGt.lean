/- Terms and languages of any size: sizes, depths, the check of a term by both texts. -/
import Derived.Test.YtpcfkflhnkfjjaaGu
import Derived.Test.YtpcfkflhnkfjjaaLo
set_option linter.unusedVariables false
set_option linter.unusedSimpArgs false
namespace Go.Proofs.Ytpcfkflhnkfjjaa
open Go Go.RowKit

/-! values: Small -/
def leftT (m : Nat) (s : Nat) : Int := if s ≤ m then (m : Int) - (s : Int) else -1
theorem sizeL_take {l : List Tm} {i : Nat} (h : i < l.length) : Tm.sizeL (l.take (i + 1)) = Tm.sizeL (l.take i) + l[i].size := by
  rw [List.take_succ_eq_append_getElem h, Tm.sizeL_snoc]
theorem sizeL_take_le (l : List Tm) (i : Nat) : i ≤ l.length → i ≤ Tm.sizeL (l.take i) ∧ Tm.sizeL (l.take i) ≤ Tm.sizeL l := by
  intro hi
  induction i with
  | zero => exact ⟨Nat.zero_le _, by simp [Tm.sizeL]⟩
  | succ i ih =>
    have h1 := ih (by omega)
    have h2 := sizeL_take (l := l) (i := i) (by omega)
    have h3 := Tm.size_pos l[i]
    refine ⟨by omega, ?_⟩
    have : Tm.sizeL l = Tm.sizeL (l.take (i + 1)) + Tm.sizeL (l.drop (i + 1)) := by
      have gen : ∀ a b : List Tm, Tm.sizeL (a ++ b) = Tm.sizeL a + Tm.sizeL b := fun a b => by
        induction a with
        | nil => simp [Tm.sizeL]
        | cons x a ih => simp only [List.cons_append, Tm.sizeL, ih]; omega
      rw [← gen, List.take_append_drop]
    omega
theorem budget_eq : ∀ (n : Nat) (t : Tm) (m : Nat), m ≤ 10000 → m < n → synthesisref13_left n t (m : Int) = some (leftT m t.size) ∧ term_within n t (m : Int) = some (leftT m t.size)
  | 0, t, m, _, h => by omega
  | n + 1, t, m, hm, hn => by
    show synthesisref13_left_b (synthesisref13_left n) t (m : Int) = _ ∧ term_within_b (term_within n) t (m : Int) = _
    obtain ⟨r0, l⟩ := t
    have hsz : (Tm.mk r0 l).size = Tm.sizeL l + 1 := rfl
    have hstart : w64 ((m : Int) - 1) = leftT m (1 + Tm.sizeL (l.take 0)) := by
      rw [w64_eq (by omega) (by omega)]
      simp only [List.take_zero, Tm.sizeL, leftT]
      split <;> omega
    obtain ⟨r, r', h1, h2, h3, h4⟩ := loop_two (step := term_within_l1 (Tm.mk r0 l) (term_within n)) (step' := synthesisref13_left_l1 (Tm.mk r0 l) (synthesisref13_left n)) (min l.length m) (by omega)
      (fun i => (leftT m (1 + Tm.sizeL (l.take i)), (i : Int))) (fun i => (leftT m (1 + Tm.sizeL (l.take i)), (i : Int))) (fun r r' => Sum.elim id id r = leftT m (Tm.sizeL l + 1) ∧ r' = leftT m (Tm.sizeL l + 1)) (fun i hi => by
      have hi1 : i < l.length := by omega
      have e1 : (Tm.mk r0 l).args[i]? = some l[i] := List.getElem?_eq_getElem hi1
      have b1 : decide ((i : Int) < ((Tm.mk r0 l).args.length : Int)) = true := decide_eq_true (by show (i : Int) < (l.length : Int); omega)
      have hle := sizeL_take_le l i (by omega)
      simp only [term_within_l1, synthesisref13_left_l1, b1, cond_true, Option.bind_some, idx_nat, e1]
      by_cases hp : 1 + Tm.sizeL (l.take i) ≤ m
      · have hv : leftT m (1 + Tm.sizeL (l.take i)) = ((m - (1 + Tm.sizeL (l.take i)) : Nat) : Int) := by unfold leftT; rw [if_pos hp]; omega
        obtain ⟨q1, q2⟩ := budget_eq n l[i] (m - (1 + Tm.sizeL (l.take i))) (by omega) (by omega)
        have hnext : leftT (m - (1 + Tm.sizeL (l.take i))) l[i].size = leftT m (1 + Tm.sizeL (l.take (i + 1))) := by
          rw [sizeL_take hi1]
          unfold leftT
          split <;> split <;> omega
        rw [hv, decide_eq_true (show (0 : Int) ≤ ((m - (1 + Tm.sizeL (l.take i)) : Nat) : Int) by omega), decide_eq_false (show ¬ ((m - (1 + Tm.sizeL (l.take i)) : Nat) : Int) < 0 by omega)]
        simp only [cond_true, cond_false, q1, q2, Option.bind_some, hnext, w64_succ (n := i) (by omega)]
        first | exact .inl ⟨rfl, rfl⟩ | exact .inl ⟨trivial, trivial⟩
      · have hv : leftT m (1 + Tm.sizeL (l.take i)) = -1 := by unfold leftT; rw [if_neg hp]
        have hf : leftT m (Tm.sizeL l + 1) = -1 := by unfold leftT; rw [if_neg (by omega)]
        rw [hv, hf]
        exact .inr ⟨_, _, rfl, rfl, rfl, rfl⟩) (by
      have hle := sizeL_take_le l (min l.length m) (by omega)
      by_cases hlm : l.length ≤ m
      · have hmin : min l.length m = l.length := by omega
        have b1 : decide ((l.length : Int) < ((Tm.mk r0 l).args.length : Int)) = false := decide_eq_false (by show ¬ (l.length : Int) < (l.length : Int); omega)
        have hf : leftT m (1 + Tm.sizeL l) = leftT m (Tm.sizeL l + 1) := by rw [Nat.add_comm]
        simp only [hmin, term_within_l1, synthesisref13_left_l1, b1, cond_false, Option.bind_some, List.take_length, hf]
        exact ⟨_, _, rfl, rfl, rfl, rfl⟩
      · have hmin : min l.length m = m := by omega
        rw [hmin] at hle
        have b1 : decide ((m : Int) < ((Tm.mk r0 l).args.length : Int)) = true := decide_eq_true (by show (m : Int) < (l.length : Int); omega)
        have hi1 : m < l.length := by omega
        have e1 : (Tm.mk r0 l).args[m]? = some l[m] := List.getElem?_eq_getElem hi1
        have hv : leftT m (1 + Tm.sizeL (l.take m)) = -1 := by unfold leftT; rw [if_neg (by omega)]
        have hf : leftT m (Tm.sizeL l + 1) = -1 := by unfold leftT; rw [if_neg (by omega)]
        simp only [hmin, term_within_l1, synthesisref13_left_l1, b1, cond_true, Option.bind_some, idx_nat, e1, hv, hf]
        exact ⟨_, _, rfl, rfl, rfl, rfl⟩)
    have h1' : loopN (term_within_l1 (Tm.mk r0 l) (term_within n)) fuel (w64 ((m : Int) - 1), 0) = some r := by rw [hstart]; simpa using h1
    have h2' : loopN (synthesisref13_left_l1 (Tm.mk r0 l) (synthesisref13_left n)) fuel (w64 ((m : Int) - 1), 0) = some r' := by rw [hstart]; simpa using h2
    unfold synthesisref13_left_b term_within_b
    rw [h1', h2', hsz, ← h4]
    refine ⟨rfl, ?_⟩
    rw [h4, ← h3]
    cases r <;> rfl
theorem sizeT_args {t : Tm} : Tm.sizeL t.args + 1 = t.size := by cases t; rfl
theorem len_le_sizeL (l : List Tm) : l.length ≤ Tm.sizeL l := by
  have := (sizeL_take_le l l.length (Nat.le_refl _)).1
  rw [List.take_length] at this
  exact this
theorem depthL_take {l : List Tm} {i : Nat} (h : i < l.length) : Tm.depthL (l.take (i + 1)) = max (Tm.depthL (l.take i)) l[i].depth := by
  rw [List.take_succ_eq_append_getElem h, Tm.depthL_snoc]
theorem depth_le_size (t : Tm) : t.depth ≤ t.size := by
  refine Tm.ind (P := fun t => t.depth ≤ t.size) (fun r l ih => ?_) t
  show Tm.depthL l + 1 ≤ Tm.sizeL l + 1
  have : ∀ l : List Tm, (∀ t ∈ l, t.depth ≤ t.size) → Tm.depthL l ≤ Tm.sizeL l := fun l => by
    induction l with
    | nil => exact fun _ => Nat.le_refl _
    | cons x l ih => 
      intro h
      have h1 := h x (List.mem_cons_self ..)
      have h2 := ih fun t ht => h t (List.mem_cons_of_mem _ ht)
      show max x.depth (Tm.depthL l) ≤ x.size + Tm.sizeL l
      omega
  have := this l ih
  omega
theorem depth_eq : ∀ (n : Nat) (t : Tm), t.size ≤ 1000 → t.size ≤ n → synthesisref13_Depth n t = some (t.depth : Int)
  | 0, t, _, h => by have := Tm.size_pos t; omega
  | n + 1, t, ht, hn => by
    show synthesisref13_Depth_b (synthesisref13_Depth n) t = _
    obtain ⟨r0, l⟩ := t
    have hsz : (Tm.mk r0 l).size = Tm.sizeL l + 1 := rfl
    have hlen := len_le_sizeL l
    have hl := loop_end (step := synthesisref13_Depth_l1 (Tm.mk r0 l) (synthesisref13_Depth n)) l.length (by omega) (fun i => ((Tm.depthL (l.take i) : Int), (i : Int))) (Tm.depthL l : Int) (fun i hi => by
      have e1 : (Tm.mk r0 l).args[i]? = some l[i] := List.getElem?_eq_getElem hi
      have b1 : decide ((i : Int) < ((Tm.mk r0 l).args.length : Int)) = true := decide_eq_true (by show (i : Int) < (l.length : Int); omega)
      have hs := Tm.sizeL_mem (List.getElem_mem hi)
      have q := depth_eq n l[i] (by omega) (by omega)
      have hmax : imax (Tm.depthL (l.take i) : Int) (l[i].depth : Int) = (Tm.depthL (l.take (i + 1)) : Int) := by
        rw [depthL_take hi]
        unfold imax
        split <;> omega
      simp only [synthesisref13_Depth_l1, b1, cond_true, idx_nat, e1, Option.bind_some, q, hmax, w64_succ (n := i) (by omega)]) (by
      have b1 : decide ((l.length : Int) < ((Tm.mk r0 l).args.length : Int)) = false := decide_eq_false (by show ¬ (l.length : Int) < (l.length : Int); omega)
      simp only [synthesisref13_Depth_l1, b1, cond_false, List.take_length])
    have hl' : loopN (synthesisref13_Depth_l1 (Tm.mk r0 l) (synthesisref13_Depth n)) fuel (0, 0) = some (Tm.depthL l : Int) := by simpa [Tm.depthL] using hl
    unfold synthesisref13_Depth_b
    rw [hl', Option.bind_some]
    have hd := depth_le_size (Tm.mk r0 l)
    have hd2 : (Tm.mk r0 l).depth = Tm.depthL l + 1 := rfl
    rw [w64_succ (by omega), hd2]
theorem shallowT_eq : ∀ (n : Nat) (t : Tm) (k : Nat), k ≤ 1000 → t.size ≤ 1000 → t.size ≤ n → term_shallow n t (k : Int) = some (decide (t.depth ≤ k))
  | 0, t, k, _, _, h => by have := Tm.size_pos t; omega
  | n + 1, t, k, hk, ht, hn => by
    show term_shallow_b (term_shallow n) t (k : Int) = _
    obtain ⟨r0, l⟩ := t
    have hsz : (Tm.mk r0 l).size = Tm.sizeL l + 1 := rfl
    have hd2 : (Tm.mk r0 l).depth = Tm.depthL l + 1 := rfl
    have hlen := len_le_sizeL l
    unfold term_shallow_b
    by_cases h0 : k = 0
    · subst h0
      rw [decide_eq_false (show ¬ (Tm.mk r0 l).depth ≤ 0 by omega)]
      rfl
    · have c0 : ((k : Int) == 0) = false := by rw [beq_eq_false_iff_ne]; omega
      rw [c0]
      have hl := loop_fuel (step := term_shallow_l1 (Tm.mk r0 l) (k : Int) (term_shallow n)) l.length (by omega) (fun i => (i : Int)) (fun i => if (l.drop i).all (fun t => decide (t.depth ≤ k - 1)) = true then .inl () else .inr false) (fun i hi => by
        have e1 : (Tm.mk r0 l).args[i]? = some l[i] := List.getElem?_eq_getElem hi
        have b1 : decide ((i : Int) < ((Tm.mk r0 l).args.length : Int)) = true := decide_eq_true (by show (i : Int) < (l.length : Int); omega)
        have hs := Tm.sizeL_mem (List.getElem_mem hi)
        have hsub : w64 ((k : Int) - 1) = ((k - 1 : Nat) : Int) := by rw [w64_eq (by omega) (by omega)]; omega
        have q := shallowT_eq n l[i] (k - 1) (by omega) (by omega) (by omega)
        have hd : l.drop i = l[i] :: l.drop (i + 1) := List.drop_eq_getElem_cons hi
        simp only [term_shallow_l1, b1, cond_true, idx_nat, e1, Option.bind_some, hsub, q, hd, List.all_cons, w64_succ (n := i) (by omega)]
        cases decide (l[i].depth ≤ k - 1) with
        | true => exact .inl ⟨rfl, by simp⟩
        | false => exact .inr rfl) (by
        have b1 : decide ((l.length : Int) < ((Tm.mk r0 l).args.length : Int)) = false := decide_eq_false (by show ¬ (l.length : Int) < (l.length : Int); omega)
        simp only [term_shallow_l1, b1, cond_false, List.drop_length, List.all_nil, if_true])
      have hl' : loopN (term_shallow_l1 (Tm.mk r0 l) (k : Int) (term_shallow n)) fuel 0 = some (if l.all (fun t => decide (t.depth ≤ k - 1)) = true then .inl () else .inr false) := by simpa using hl
      have hall : l.all (fun t => decide (t.depth ≤ k - 1)) = decide ((Tm.mk r0 l).depth ≤ k) := by
        have gen : ∀ l : List Tm, l.all (fun t => decide (t.depth ≤ k - 1)) = decide (Tm.depthL l ≤ k - 1) := fun l => by
          induction l with
          | nil => simp [Tm.depthL]
          | cons x l ih =>
            rw [List.all_cons, ih, ← Bool.decide_and]
            exact decide_eq_decide.2 (by show _ ↔ max x.depth (Tm.depthL l) ≤ k - 1; omega)
        rw [gen]
        exact decide_eq_decide.2 (by omega)
      simp only [cond_false]
      rw [hl', hall, Option.bind_some]
      cases decide ((Tm.mk r0 l).depth ≤ k) <;> rfl
theorem derived_both : ∀ (n : Nat) (l : La) (s : Int) (t : Tm), t.size ≤ 1000 → t.size ≤ n → (∀ x ∈ l.rules, x.kind ≠ 3 → x.args.length = 0) → ∃ c, term_derived n l s t = some c ∧ synthesisref13_fits n l s t = some c
  | 0, l, s, t, _, h, _ => by have := Tm.size_pos t; omega
  | n + 1, l, s, t, ht, hn, hr => by
    show ∃ c, term_derived_b (term_derived n) l s t = some c ∧ synthesisref13_fits_b (synthesisref13_fits n) l s t = some c
    obtain ⟨r0, ts⟩ := t
    have hsz : (Tm.mk r0 ts).size = Tm.sizeL ts + 1 := rfl
    have hlen := len_le_sizeL ts
    unfold term_derived_b synthesisref13_fits_b
    have hrr : (Tm.mk r0 ts).rule = r0 := rfl
    have haa : (Tm.mk r0 ts).args = ts := rfl
    simp only [hrr, haa]
    by_cases h0 : r0 < 0
    · rw [decide_eq_true h0]; exact ⟨1, rfl, rfl⟩
    by_cases h1 : (l.rules.length : Int) ≤ r0
    · rw [decide_eq_false h0, decide_eq_true h1]; exact ⟨1, rfl, rfl⟩
    rw [decide_eq_false h0, decide_eq_false h1]
    obtain ⟨x, hx, hxm⟩ := idx_int (xs := l.rules) (i := r0) (by omega) (by omega)
    simp only [cond_false, Option.bind_some, hx]
    cases x.symbol != s with
    | true => exact ⟨3, rfl, rfl⟩
    | false =>
      have har : synthesisref13_Arity x = some (x.args.length : Int) := by
        unfold synthesisref13_Arity
        by_cases hk : x.kind = 3
        · rw [show (x.kind != 3) = false by rw [bne_eq_false_iff_eq]; exact hk]; rfl
        · rw [show (x.kind != 3) = true by rw [bne_iff_ne]; exact hk, hr x hxm hk]; rfl
      simp only [cond_false, har, Option.bind_some]
      by_cases hl : (ts.length : Int) = (x.args.length : Int)
      · rw [show ((ts.length : Int) != (x.args.length : Int)) = false by rw [bne_eq_false_iff_eq]; exact hl]
        obtain ⟨r, h1, h2⟩ := loop_same (step := term_derived_l1 l (Tm.mk r0 ts) (term_derived n) x) (step' := synthesisref13_fits_l1 l (Tm.mk r0 ts) (synthesisref13_fits n) x) ts.length (by omega) (fun i => (i : Int)) (fun i hi => by
          have e1 : ts[i]? = some ts[i] := List.getElem?_eq_getElem hi
          have hi2 : i < x.args.length := by omega
          have e2 : x.args[i]? = some x.args[i] := List.getElem?_eq_getElem hi2
          have b1 : decide ((i : Int) < (ts.length : Int)) = true := decide_eq_true (by omega)
          have hs := Tm.sizeL_mem (List.getElem_mem hi)
          obtain ⟨c, c1, c2⟩ := derived_both n l x.args[i] ts[i] (by omega) (by omega) hr
          simp only [term_derived_l1, synthesisref13_fits_l1, haa, b1, cond_true, idx_nat, e1, e2, Option.bind_some, c1, c2, w64_succ (n := i) (by omega)]
          cases c != 0 with
          | true => exact .inr ⟨_, rfl, rfl⟩
          | false => exact .inl ⟨rfl, rfl⟩) (.inl ()) (by
          have b1 : decide ((ts.length : Int) < (ts.length : Int)) = false := decide_eq_false (by omega)
          simp only [term_derived_l1, haa, b1, cond_false]) (by
          have b1 : decide ((ts.length : Int) < (ts.length : Int)) = false := decide_eq_false (by omega)
          simp only [synthesisref13_fits_l1, haa, b1, cond_false])
        have h1' : loopN (term_derived_l1 l (Tm.mk r0 ts) (term_derived n) x) fuel 0 = some r := by simpa using h1
        have h2' : loopN (synthesisref13_fits_l1 l (Tm.mk r0 ts) (synthesisref13_fits n) x) fuel 0 = some r := by simpa using h2
        simp only [cond_false, h1', h2', Option.bind_some]
        cases r <;> exact ⟨_, rfl, rfl⟩
      · rw [show ((ts.length : Int) != (x.args.length : Int)) = true by rw [bne_iff_ne]; exact hl]
        exact ⟨4, rfl, rfl⟩
/- The law TermChecks. -/

/-- languages as they come in -/
theorem within_eq (t : Tm) (m : Nat) (hm : m ≤ 10000) : synthesisref13_Within t (m : Int) = some (decide (t.size ≤ m)) := by
  unfold synthesisref13_Within
  rw [(budget_eq fuel t m hm (lt_fuel (by omega))).1, Option.bind_some]
  refine congrArg some (decide_eq_decide.2 ?_)
  unfold leftT
  split <;> omega
theorem check_both (l : La) (s : Int) (t : Tm) (hl : wideL l) (ht : t.size ≤ 1000) : ∃ c, term_Check l s t = some c ∧ synthesisref13_Check l s t = some c ∧ (c = 0 → GoodL l ∧ term_derived fuel l s t = some 0) := by
  obtain ⟨c, c1, c2, c3⟩ := lang_u l hl
  unfold term_Check synthesisref13_Check
  rw [c1, c2]
  simp only [Option.bind_some]
  by_cases hc : c = 0
  · subst hc
    have hz : ((0 : Int) != 0) = false := rfl
    rw [hz]
    simp only [cond_false]
    by_cases s0 : s < 0
    · rw [decide_eq_true s0]; exact ⟨1, rfl, rfl, fun h => absurd h (by decide)⟩
    by_cases s1 : (l.symbols.length : Int) ≤ s
    · rw [decide_eq_false s0, decide_eq_true s1]; exact ⟨1, rfl, rfl, fun h => absurd h (by decide)⟩
    have hb : term_within fuel t 4096 = some (leftT 4096 t.size) := (budget_eq fuel t 4096 (by omega) (lt_fuel (by omega))).2
    have hw : synthesisref13_Within t 4096 = some (decide (t.size ≤ 4096)) := within_eq t 4096 (by omega)
    have hs : term_shallow fuel t 32 = some (decide (t.depth ≤ 32)) := shallowT_eq fuel t 32 (by omega) (by omega) (Nat.le_of_lt (lt_fuel (by omega)))
    have hd := depth_eq fuel t (by omega) (Nat.le_of_lt (lt_fuel (by omega)))
    have hneg : decide (leftT 4096 t.size < 0) = false := decide_eq_false (by unfold leftT; split <;> omega)
    rw [decide_eq_false s0, decide_eq_false s1]
    simp only [cond_false, Option.bind_some, hb, hw, hs, hd, hneg, decide_eq_true (show t.size ≤ 4096 by omega), Bool.not_true]
    have hde : (!(decide (t.depth ≤ 32))) = decide ((32 : Int) < (t.depth : Int)) := by
      rw [← decide_not]
      exact decide_eq_decide.2 (by omega)
    rw [hde]
    cases decide ((32 : Int) < (t.depth : Int)) with
    | true => exact ⟨2, rfl, rfl, fun h => absurd h (by decide)⟩
    | false =>
      obtain ⟨d, d1, d2⟩ := derived_both fuel l s t (by omega) (Nat.le_of_lt (lt_fuel (by omega))) (fun x hx hk => by rw [((c3 rfl).good x hx).noargs hk]; rfl)
      simp only [cond_false, d1, d2, Option.bind_some]
      exact ⟨d, rfl, rfl, fun h => ⟨c3 rfl, by rw [h]⟩⟩
  · rw [show (c != 0) = true by rw [bne_iff_ne]; exact hc]
    exact ⟨c, rfl, rfl, fun h => absurd h hc⟩
/-- the rules of a term that a symbol derives are there -/
theorem derived_rules : ∀ (n : Nat) (l : La) (s : Int) (t : Tm), t.size ≤ 1000 → t.size ≤ n → (∀ x ∈ l.rules, x.kind ≠ 3 → x.args.length = 0) → term_derived n l s t = some 0 → ∀ r ∈ t.rules, 0 ≤ r ∧ r < (l.rules.length : Int)
  | 0, l, s, t, _, h, _, _ => by have := Tm.size_pos t; omega
  | n + 1, l, s, t, hs, hn, hk, h => by
    have h : term_derived_b (term_derived n) l s t = some 0 := h
    unfold term_derived_b at h
    obtain ⟨b, h1, h⟩ := ob_some h
    rcases bif_some h with ⟨_, h⟩ | ⟨hb, h⟩
    · cases h
    subst hb
    have hr : 0 ≤ t.rule ∧ t.rule < (l.rules.length : Int) := by
      rcases bif_some h1 with ⟨_, h1⟩ | ⟨q, h1⟩
      · cases h1
      · have q := of_decide_eq_false q
        have q2 := of_decide_eq_false (Option.some.inj h1)
        omega
    obtain ⟨x, h2, h⟩ := ob_some h
    rcases bif_some h with ⟨_, h⟩ | ⟨_, h⟩
    · cases h
    rcases bif_some h with ⟨_, h⟩ | ⟨hl, h⟩
    · cases h
    have hl : t.args.length = x.args.length := by have := bne_eq_false_iff_eq.1 hl; omega
    obtain ⟨v, h3, h⟩ := ob_some h
    have hv : ∀ c : Int, c ≠ 0 → (.inr c : Unit ⊕ Int) ≠ v := fun c hc he => by
      subst he
      cases h
      exact hc rfl
    have hsa := sizeT_args (t := t)
    have hal := len_le_sizeL t.args
    have hst : ∀ (i : Nat) (hi : i < t.args.length), ∃ c, term_derived n l (x.args[i]'(by omega)) t.args[i] = some c ∧ term_derived_l1 l t (term_derived n) x (i : Int) = (bif c != 0 then some (.inr (.inr c)) else some (.inl ((i + 1 : Nat) : Int))) := fun i hi => by
      have hm := Tm.sizeL_mem (List.getElem_mem hi)
      obtain ⟨c, c1, _⟩ := derived_both n l (x.args[i]'(by omega)) t.args[i] (by omega) (by omega) hk
      refine ⟨c, c1, ?_⟩
      simp only [term_derived_l1, lt_len hi, cond_true, idx_nat, List.getElem?_eq_getElem hi, List.getElem?_eq_getElem (show i < x.args.length by omega), Option.bind_some, c1, w64_succ' hi (show t.args.length ≤ 9223372036854775807 by omega)]
    have hall := fun i (hi : i < t.args.length) => loop_all (step := term_derived_l1 l t (term_derived n) x) t.args.length (fun i => (i : Int)) v (fun i hi => by
      obtain ⟨c, _, c2⟩ := hst i hi
      rw [c2]
      cases hc : (c != 0) with
      | true => exact .inr ⟨_, rfl, hv c (by simpa using hc)⟩
      | false => exact .inl rfl) fuel 0 h3 i (Nat.zero_le _) hi
    intro r hmem
    have hmem : r ∈ t.pre Tm.rule := hmem
    have hpre : t.pre Tm.rule = t.rule :: Tm.preL Tm.rule t.args := by cases t; rfl
    rw [hpre] at hmem
    rcases List.mem_cons.1 hmem with rfl | hmem
    · exact hr
    · have inL : ∀ xs : List Tm, r ∈ Tm.preL Tm.rule xs → ∃ y ∈ xs, r ∈ y.rules := fun xs => by
        induction xs with
        | nil => intro h; cases h
        | cons y ys ih =>
          intro h
          rcases List.mem_append.1 (show r ∈ y.pre Tm.rule ++ Tm.preL Tm.rule ys from h) with h | h
          · exact ⟨y, List.mem_cons_self .., h⟩
          · obtain ⟨z, hz, hz2⟩ := ih h
            exact ⟨z, List.mem_cons_of_mem _ hz, hz2⟩
      obtain ⟨y, hy, hy2⟩ := inL _ hmem
      obtain ⟨i, hi, rfl⟩ := List.mem_iff_getElem.1 hy
      obtain ⟨c, c1, c2⟩ := hst i hi
      have ha := hall i hi
      rw [c2] at ha
      have hm := Tm.sizeL_mem (List.getElem_mem hi)
      cases hc : (c != 0) with
      | true => rw [hc] at ha; cases ha
      | false =>
        have hc := bne_eq_false_iff_eq.1 hc
        subst hc
        exact derived_rules n l _ t.args[i] (by omega) (by omega) hk c1 r hy2

end Go.Proofs.Ytpcfkflhnkfjjaa
